/- A fault around an error without a number (errors.New): errors.Is, errors.As, walked. -/
import Derived.Test.YtiioedgdhkndgaaDoorE6
namespace Go.Proofs.YtiioedgdhkndgaaDoor
open Go.RowKit Go.Sort Go.Extern.Stop Go.Stop Go.Extern

abbrev tipV (b : Nat) : Value := .iface 106 (.pointer (some ⟨b, 0, none⟩))

set_option maxHeartbeats 1000000 in
theorem New_err (s : ByteArray) (w : World) : Calls Tryd.prog 16 #[.string s] w fun e w' => e = .returned (tipV w.heap.size) ∧ w' = w.alloc (.cells #[.string s] 108) := by
  go_enter Tryd.func16, Tryd.ntmps16
  go_wp2
  go_ret
  exact ⟨rfl, rfl⟩

set_option maxHeartbeats 1000000 in
theorem ErrorS_any (b : Nat) (s : ByteArray) (w : World) (h : Blk w b 108 [.string s]) : Calls Tryd.prog 233 #[.pointer (some ⟨b, 0, none⟩)] w fun e w' => e = .returned (.string s) ∧ w = w' := by
  have c0 : w.cell? ⟨b, 0, none⟩ = some (.string s) := h.cell rfl
  clear h
  go_enter Tryd.func233, Tryd.ntmps233
  go_wp2
  go_ret
  exact ⟨rfl, rfl⟩

theorem mErrorS (n : Nat) (v : Value) (w : World) : (Go.method (n + 1) 106 v "Error").run Tryd.prog w = .ok (233, v) w := by kernel_rfl
theorem noIsS (v : Value) (xT : TypeId) (w : World) : (Instr.typeAssert (.iface 106 v) xT 189 true).run Tryd.prog w = .ok (.tuple #[.nilIface, .bool false]) w := run_typeAssert_lacksB Tryd.underlying189 (by kernel_rfl) (by kernel_rfl) v xT w
theorem noAsS (v : Value) (xT : TypeId) (w : World) : (Instr.typeAssert (.iface 106 v) xT 198 true).run Tryd.prog w = .ok (.tuple #[.nilIface, .bool false]) w := run_typeAssert_lacksB Tryd.underlying198 (by kernel_rfl) (by kernel_rfl) v xT w
theorem noUnwrapS (v : Value) (xT : TypeId) (w : World) : (Instr.typeAssert (.iface 106 v) xT 192 true).run Tryd.prog w = .ok (.tuple #[.nilIface, .bool false]) w := run_typeAssert_lacksB Tryd.underlying192 (by kernel_rfl) (by kernel_rfl) v xT w
theorem noUnwrapsS (v : Value) (xT : TypeId) (w : World) : (Instr.typeAssert (.iface 106 v) xT 193 true).run Tryd.prog w = .ok (.tuple #[.nilIface, .bool false]) w := run_typeAssert_lacksB Tryd.underlying193 (by kernel_rfl) (by kernel_rfl) v xT w
theorem typeOfS (v : Value) (w : World) : (ReflectliteType.typeOf #[.iface 106 v]).run Tryd.prog w = .ok (rtV 106) w := by kernel_rfl
theorem asgSF (w : World) : (ReflectliteType.relation "AssignableTo" ReflectliteType.assignableTo #[.agg #[.pointer (some ⟨14, 106, none⟩)], rtV 33]).run Tryd.prog w = .ok (.bool false) w := by kernel_rfl
theorem asgSE (w : World) : (ReflectliteType.relation "AssignableTo" ReflectliteType.assignableTo #[.agg #[.pointer (some ⟨14, 106, none⟩)], rtV 23]).run Tryd.prog w = .ok (.bool false) w := by kernel_rfl

set_option maxHeartbeats 4000000 in
set_option maxRecDepth 100000 in
theorem isS_any (g b : Nat) (s : ByteArray) (p c : Int) (w : World) (h : Blk w g 105 [.string s, .int .i64 p, tipV b]) :
    Calls Tryd.prog 113 #[faultV g, errnoV c, .bool true] w fun er w' => er = .returned (.bool false) ∧ w' = w := by
  have HB := Lib.hid h
  have nF := noIsF
  have uF := hasUnwrapF
  have mU := mUnwrap
  have nS := noIsS
  have uS := noUnwrapS
  have vS := noUnwrapsS
  have hty := fun vx vy => run_eql_iface_types (P := Tryd.prog) 33 23 vx vy Tryd.underlying28 (by decide)
  have hts := fun vx vy => run_eql_iface_types (P := Tryd.prog) 106 23 vx vy Tryd.underlying28 (by decide)
  clear h
  go_enter Tryd.func113, Tryd.ntmps113
  go_wp2
  go_loopg [0] 2 (fun gg x wr => wr = w ∧ ((gg = 2 ∧ x = faultV g) ∨ (gg = 1 ∧ x = tipV b)))
  case atStart => exact ⟨rfl, .inl ⟨rfl, rfl⟩⟩
  case round =>
    obtain ⟨rfl, ⟨hg, rfl⟩ | ⟨hg, rfl⟩⟩ := hrel
    · have HG := Lib.hid hg
      clear hg hts
      go_wp2_with fail
      refine (Unwrap_any g s p (tipV b) _ HB.out).mono ?_
      rintro er w2 ⟨rfl, rfl⟩
      go_wp2
      go_roundg 1
      case measure => rw [HG.out]; decide
      case rel => exact ⟨rfl, .inr ⟨rfl, rfl⟩⟩
    · clear hg hty
      go_wp2
      go_ret
      exact ⟨rfl, rfl⟩

set_option maxHeartbeats 4000000 in
set_option maxRecDepth 100000 in
theorem errorsIsS_any (g b : Nat) (s : ByteArray) (p c : Int) (w : World) (h : Blk w g 105 [.string s, .int .i64 p, tipV b]) :
    Calls Tryd.prog 66 #[faultV g, errnoV c] w fun er w' => er = .returned (.bool false) ∧ w' = w := by
  have HI := Lib.hid (isS_any g b s p c w h)
  have h8 := @run_callFunc_extern Tryd.prog 112 _ Extern.ReflectliteType.typeOf Tryd.func112 (by kernel_rfl) (by kernel_rfl) (by kernel_rfl) (by kernel_rfl)
  have h32 := @run_callFunc_extern Tryd.prog 240 _ compX Tryd.func240 (by kernel_rfl) (by kernel_rfl) (by kernel_rfl) (by kernel_rfl)
  have tT := tTypeOf
  have mR := mComparable
  clear h
  go_enter Tryd.func66, Tryd.ntmps66
  go_wp2_with fail
  rw [tComparable _ (by kernel_rfl)]
  go_wp2_with (first | (go_at_call 113; refine HI.out.mono ?_; rintro er w2 ⟨rfl, rfl⟩))
  go_ret
  exact ⟨rfl, rfl⟩

set_option maxHeartbeats 1000000 in
theorem FIsS_any (g b : Nat) (s : ByteArray) (p c : Int) (w : World) (h : Blk w g 105 [.string s, .int .i64 p, tipV b]) :
    Calls Tryd.prog 11 #[faultV g, .int .i64 c] w fun er w' => er = .returned (.bool false) ∧ w' = w := by
  have HI := Lib.hid (errorsIsS_any g b s p c w h)
  clear h
  go_enter Tryd.func11, Tryd.ntmps11
  go_wp2_with (first | (go_at_call 66; refine HI.out.mono ?_; rintro er w2 ⟨rfl, rfl⟩))
  go_ret
  exact ⟨rfl, rfl⟩

set_option maxHeartbeats 4000000 in
set_option maxRecDepth 100000 in
theorem asS_miss (b : Nat) (a t : Addr) (w : World) :
    Calls Tryd.prog 117 #[tipV b, .iface 110 (.pointer (some t)), tvV 110 a, rtV 33] w fun er w' => er = .returned (.bool false) ∧ Below w.heap.size w w' := by
  have xO := @run_callFunc_extern Tryd.prog 112 _ (ReflectliteType.typeOf) Tryd.func112 (by kernel_rfl) (by kernel_rfl) (by kernel_rfl) (by kernel_rfl)
  have xA := @run_callFunc_extern Tryd.prog 239 _ (ReflectliteType.relation "AssignableTo" ReflectliteType.assignableTo) Tryd.func239 (by kernel_rfl) (by kernel_rfl) (by kernel_rfl) (by kernel_rfl)
  have tO := typeOfS
  have mA := methodAssignable
  have aF := asgSF
  have nA := noAsS
  have uE := noUnwrapS
  have vE := noUnwrapsS
  go_enter Tryd.func117, Tryd.ntmps117
  go_wp2
  refine wp_loop_rounds 1 ?_
  rw [rounds_succ]
  go_wp2
  go_ret
  exact ⟨rfl, (Below.refl _ _).alloc (Nat.le_refl _) _⟩

set_option maxHeartbeats 8000000 in
set_option maxRecDepth 100000 in
theorem asES_any (g b : Nat) (s : ByteArray) (p : Int) (a t : Addr) (w : World) (h : Blk w g 105 [.string s, .int .i64 p, tipV b]) :
    Calls Tryd.prog 117 #[faultV g, .iface 103 (.pointer (some t)), tvV 103 a, rtV 23] w fun er w' => er = .returned (.bool false) ∧ Below w.heap.size w w' := by
  have HB := Lib.hid (h.alloc (.cells #[.pointer (some ⟨14, 103, none⟩), .pointer (some a), .int .u64 150] 155))
  have hb := Lib.hid ((Below.refl w.heap.size w).alloc (Nat.le_refl _) (.cells #[.pointer (some ⟨14, 103, none⟩), .pointer (some a), .int .u64 150] 155))
  have xO := @run_callFunc_extern Tryd.prog 112 _ (ReflectliteType.typeOf) Tryd.func112 (by kernel_rfl) (by kernel_rfl) (by kernel_rfl) (by kernel_rfl)
  have xA := @run_callFunc_extern Tryd.prog 239 _ (ReflectliteType.relation "AssignableTo" ReflectliteType.assignableTo) Tryd.func239 (by kernel_rfl) (by kernel_rfl) (by kernel_rfl) (by kernel_rfl)
  have tOF := typeOfF
  have tOS := typeOfS
  have mA := methodAssignable
  have aF := asgFE
  have aS := asgSE
  have nF := noAsF
  have uF := hasUnwrapF
  have mU := mUnwrap
  have nS := noAsS
  have uS := noUnwrapS
  have vS := noUnwrapsS
  clear h
  go_enter Tryd.func117, Tryd.ntmps117
  go_wp2
  go_loopg [0] 2 (fun gg x wr => wr = w.alloc (.cells #[.pointer (some ⟨14, 103, none⟩), .pointer (some a), .int .u64 150] 155) ∧ ((gg = 2 ∧ x = faultV g) ∨ (gg = 1 ∧ x = tipV b)))
  case atStart => exact ⟨rfl, .inl ⟨rfl, rfl⟩⟩
  case round =>
    obtain ⟨rfl, ⟨hg, rfl⟩ | ⟨hg, rfl⟩⟩ := hrel
    · have HG := Lib.hid hg
      clear hg
      go_wp2_with fail
      refine (Unwrap_any g s p (tipV b) _ HB.out).mono ?_
      rintro er w2 ⟨rfl, rfl⟩
      go_wp2
      go_roundg 1
      case measure => rw [HG.out]; decide
      case rel => exact ⟨rfl, .inr ⟨rfl, rfl⟩⟩
    · clear hg
      go_wp2
      go_ret
      exact ⟨rfl, hb.out⟩

set_option maxHeartbeats 4000000 in
set_option maxRecDepth 100000 in
theorem AsS_miss (b : Nat) (t : Addr) (w : World) (he : EtT w) :
    Calls Tryd.prog 67 #[tipV b, .iface 110 (.pointer (some t))] w fun er w' => er = .returned (.bool false) ∧ Below w.heap.size w w' := by
  have hw1 := ((Below.refl w.heap.size w).alloc (Nat.le_refl _) (.cells #[.pointer (some t)] 110)).alloc (by simp) (.cells #[.pointer (some ⟨14, 110, none⟩), .pointer (some ⟨w.heap.size, 0, none⟩), .int .u64 150] 155)
  have HW1 := Lib.hid hw1
  have HCL := Lib.hid (asS_miss b ⟨w.heap.size, 0, none⟩ t ((w.alloc (.cells #[.pointer (some t)] 110)).alloc (.cells #[.pointer (some ⟨14, 110, none⟩), .pointer (some ⟨w.heap.size, 0, none⟩), .int .u64 150] 155)))
  have hg2 := (he.below hw1).2
  have n8 := tF_isNil ⟨w.heap.size, 0, none⟩ t ((w.alloc (.cells #[.pointer (some t)] 110)).alloc (.cells #[.pointer (some ⟨14, 110, none⟩), .pointer (some ⟨w.heap.size, 0, none⟩), .int .u64 150] 155)) (by simp)
  have xV := @run_callFunc_extern Tryd.prog 114 _ (fun args => ReflectliteValue.unpack (args.getD 0 (.tuple #[]))) Tryd.func114 (by kernel_rfl) (by kernel_rfl) (by kernel_rfl) (by kernel_rfl)
  have xT := @run_callFunc_extern Tryd.prog 115 _ (ReflectliteValue.methodAny (ReflectliteValue.valueError "reflectlite.Value.Type" 0) (fun t _ _ _ => ReflectliteType.toType t)) Tryd.func115 (by kernel_rfl) (by kernel_rfl) (by kernel_rfl) (by kernel_rfl)
  have xN := @run_callFunc_extern Tryd.prog 116 _ (ReflectliteValue.method (ReflectliteValue.valueError "reflectlite.Value.IsNil" 0) ReflectliteValue.isNil) Tryd.func116 (by kernel_rfl) (by kernel_rfl) (by kernel_rfl) (by kernel_rfl)
  have xK := @run_callFunc_extern Tryd.prog 229 _ (ReflectliteType.abiMethod fun t => do pure (.int .u8 (← Rtype.kind t))) Tryd.func229 (by kernel_rfl) (by kernel_rfl) (by kernel_rfl) (by kernel_rfl)
  have xE := @run_callFunc_extern Tryd.prog 241 _ (ReflectliteType.method ReflectliteType.elem) Tryd.func241 (by kernel_rfl) (by kernel_rfl) (by kernel_rfl) (by kernel_rfl)
  have xI := @run_callFunc_extern Tryd.prog 242 _ (ReflectliteType.relation "Implements" ReflectliteType.implements_) Tryd.func242 (by kernel_rfl) (by kernel_rfl) (by kernel_rfl) (by kernel_rfl)
  have f6 := tF_valueOf
  have f7 := tF_type
  have mK := methodKind
  have mE := methodElem
  have mI := methodImplements
  have k1 := tF_kindP
  have k2 := tF_kindE
  have e1 := tF_elemT
  have i1 := tF_implements
  clear hw1 he
  go_enter Tryd.func67, Tryd.ntmps67
  go_wp2_with fail
  refine HCL.out.mono ?_
  rintro er w3 ⟨rfl, hb⟩
  have HX := Lib.hid (HW1.out.trans (hb.mono HW1.out.size))
  clear hb HCL
  go_wp2
  go_ret
  exact ⟨rfl, HX.out⟩

set_option maxHeartbeats 4000000 in
set_option maxRecDepth 100000 in
theorem AsES_any (g b : Nat) (s : ByteArray) (p : Int) (t : Addr) (w : World) (h : Blk w g 105 [.string s, .int .i64 p, tipV b]) (he : EtT w) :
    Calls Tryd.prog 67 #[faultV g, .iface 103 (.pointer (some t))] w fun er w' => er = .returned (.bool false) ∧ Below w.heap.size w w' := by
  have hw1 := ((Below.refl w.heap.size w).alloc (Nat.le_refl _) (.cells #[.pointer (some t)] 103)).alloc (by simp) (.cells #[.pointer (some ⟨14, 103, none⟩), .pointer (some ⟨w.heap.size, 0, none⟩), .int .u64 150] 155)
  have HW1 := Lib.hid hw1
  have HCL := Lib.hid (asES_any g b s p ⟨w.heap.size, 0, none⟩ t ((w.alloc (.cells #[.pointer (some t)] 103)).alloc (.cells #[.pointer (some ⟨14, 103, none⟩), .pointer (some ⟨w.heap.size, 0, none⟩), .int .u64 150] 155)) (h.below hw1 h.lt))
  have hg2 := (he.below hw1).2
  have n8 := tE_isNil ⟨w.heap.size, 0, none⟩ t ((w.alloc (.cells #[.pointer (some t)] 103)).alloc (.cells #[.pointer (some ⟨14, 103, none⟩), .pointer (some ⟨w.heap.size, 0, none⟩), .int .u64 150] 155)) (by simp)
  have xV := @run_callFunc_extern Tryd.prog 114 _ (fun args => ReflectliteValue.unpack (args.getD 0 (.tuple #[]))) Tryd.func114 (by kernel_rfl) (by kernel_rfl) (by kernel_rfl) (by kernel_rfl)
  have xT := @run_callFunc_extern Tryd.prog 115 _ (ReflectliteValue.methodAny (ReflectliteValue.valueError "reflectlite.Value.Type" 0) (fun t _ _ _ => ReflectliteType.toType t)) Tryd.func115 (by kernel_rfl) (by kernel_rfl) (by kernel_rfl) (by kernel_rfl)
  have xN := @run_callFunc_extern Tryd.prog 116 _ (ReflectliteValue.method (ReflectliteValue.valueError "reflectlite.Value.IsNil" 0) ReflectliteValue.isNil) Tryd.func116 (by kernel_rfl) (by kernel_rfl) (by kernel_rfl) (by kernel_rfl)
  have xK := @run_callFunc_extern Tryd.prog 229 _ (ReflectliteType.abiMethod fun t => do pure (.int .u8 (← Rtype.kind t))) Tryd.func229 (by kernel_rfl) (by kernel_rfl) (by kernel_rfl) (by kernel_rfl)
  have xE := @run_callFunc_extern Tryd.prog 241 _ (ReflectliteType.method ReflectliteType.elem) Tryd.func241 (by kernel_rfl) (by kernel_rfl) (by kernel_rfl) (by kernel_rfl)
  have xI := @run_callFunc_extern Tryd.prog 242 _ (ReflectliteType.relation "Implements" ReflectliteType.implements_) Tryd.func242 (by kernel_rfl) (by kernel_rfl) (by kernel_rfl) (by kernel_rfl)
  have f6 := tE_valueOf
  have f7 := tE_type
  have mK := methodKind
  have mE := methodElem
  have mI := methodImplements
  have k1 := tE_kindP
  have k2 := tE_kindE
  have e1 := tE_elemT
  have i1 := tE_implements
  clear hw1 he h
  go_enter Tryd.func67, Tryd.ntmps67
  go_wp2_with fail
  refine HCL.out.mono ?_
  rintro er w3 ⟨rfl, hb⟩
  have HX := Lib.hid (HW1.out.trans (hb.mono HW1.out.size))
  clear hb HCL
  go_wp2
  go_ret
  exact ⟨rfl, HX.out⟩

end Go.Proofs.YtiioedgdhkndgaaDoor
