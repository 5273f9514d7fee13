/- errors.As over faults around a number, walked. -/
import Derived.Test.YtknlhkkpheahlaaDoorE4
namespace Go.Proofs.YtknlhkkpheahlaaDoor
open Go.RowKit Go.Sort Go.Extern.Stop Go.Stop Go.Extern

set_option maxHeartbeats 4000000 in
set_option maxRecDepth 100000 in
theorem AsF_hit (g : Nat) (t : Addr) (old : Value) (w : World) (he : EtT w) (ht : w.cell? t = some old) (hf : w.frozen? t = false) :
    Calls Tryd.prog 42 #[faultV g, .iface 77 (.pointer (some t))] w (AsSet t (.pointer (some ⟨g, 0, none⟩)) w) := by
  have htl := cell_lt ht
  have hw1 := ((Below.refl w.heap.size w).alloc (Nat.le_refl _) (.cells #[.pointer (some t)] 77)).alloc (by simp) (.cells #[.pointer (some ⟨14, 77, none⟩), .pointer (some ⟨w.heap.size, 0, none⟩), .int .u64 150] 114)
  have HW1 := Lib.hid hw1
  have HCL := Lib.hid (asF_hit g ⟨w.heap.size, 0, none⟩ t old ((w.alloc (.cells #[.pointer (some t)] 77)).alloc (.cells #[.pointer (some ⟨14, 77, none⟩), .pointer (some ⟨w.heap.size, 0, none⟩), .int .u64 150] 114)) (by simp) (by rw [World.cell?_alloc_lt _ _ t (by simp; omega), World.cell?_alloc_lt _ _ t htl]; exact ht) (by rw [World.frozen?_alloc_old _ _ t (by simp; omega), World.frozen?_alloc_old _ _ t (Nat.ne_of_lt htl)]; exact hf))
  have hg2 := (he.below hw1).2
  have n8 := tF_isNil ⟨w.heap.size, 0, none⟩ t ((w.alloc (.cells #[.pointer (some t)] 77)).alloc (.cells #[.pointer (some ⟨14, 77, none⟩), .pointer (some ⟨w.heap.size, 0, none⟩), .int .u64 150] 114)) (by simp)
  have xV := @run_callFunc_extern Tryd.prog 73 _ (fun args => ReflectliteValue.unpack (args.getD 0 (.tuple #[]))) Tryd.func73 (by kernel_rfl) (by kernel_rfl) (by kernel_rfl) (by kernel_rfl)
  have xT := @run_callFunc_extern Tryd.prog 74 _ (ReflectliteValue.methodAny (ReflectliteValue.valueError "reflectlite.Value.Type" 0) (fun t _ _ _ => ReflectliteType.toType t)) Tryd.func74 (by kernel_rfl) (by kernel_rfl) (by kernel_rfl) (by kernel_rfl)
  have xN := @run_callFunc_extern Tryd.prog 75 _ (ReflectliteValue.method (ReflectliteValue.valueError "reflectlite.Value.IsNil" 0) ReflectliteValue.isNil) Tryd.func75 (by kernel_rfl) (by kernel_rfl) (by kernel_rfl) (by kernel_rfl)
  have xK := @run_callFunc_extern Tryd.prog 167 _ (ReflectliteType.abiMethod fun t => do pure (.int .u8 (← Rtype.kind t))) Tryd.func167 (by kernel_rfl) (by kernel_rfl) (by kernel_rfl) (by kernel_rfl)
  have xE := @run_callFunc_extern Tryd.prog 180 _ (ReflectliteType.method ReflectliteType.elem) Tryd.func180 (by kernel_rfl) (by kernel_rfl) (by kernel_rfl) (by kernel_rfl)
  have xI := @run_callFunc_extern Tryd.prog 181 _ (ReflectliteType.relation "Implements" ReflectliteType.implements_) Tryd.func181 (by kernel_rfl) (by kernel_rfl) (by kernel_rfl) (by kernel_rfl)
  have f6 := tF_valueOf
  have f7 := tF_type
  have mK := methodKind
  have mE := methodElem
  have mI := methodImplements
  have k1 := tF_kindP
  have k2 := tF_kindE
  have e1 := tF_elemT
  have i1 := tF_implements
  clear hw1 he
  go_enter Tryd.func42, Tryd.ntmps42
  go_wp2_with fail
  refine HCL.out.mono ?_
  rintro er w3 ⟨rfl, W1, hb, rfl⟩
  have HX := Lib.hid (HW1.out.trans (hb.mono HW1.out.size))
  clear hb HCL
  go_wp2
  go_ret
  exact ⟨rfl, W1, HX.out, rfl⟩

set_option maxHeartbeats 4000000 in
set_option maxRecDepth 100000 in
theorem AsF_miss (e : Int) (t : Addr) (w : World) (he : EtT w) :
    Calls Tryd.prog 42 #[errnoV e, .iface 77 (.pointer (some t))] w fun er w' => er = .returned (.bool false) ∧ Below w.heap.size w w' := by
  have hw1 := ((Below.refl w.heap.size w).alloc (Nat.le_refl _) (.cells #[.pointer (some t)] 77)).alloc (by simp) (.cells #[.pointer (some ⟨14, 77, none⟩), .pointer (some ⟨w.heap.size, 0, none⟩), .int .u64 150] 114)
  have HW1 := Lib.hid hw1
  have HCL := Lib.hid (asF_miss e ⟨w.heap.size, 0, none⟩ t ((w.alloc (.cells #[.pointer (some t)] 77)).alloc (.cells #[.pointer (some ⟨14, 77, none⟩), .pointer (some ⟨w.heap.size, 0, none⟩), .int .u64 150] 114)))
  have hg2 := (he.below hw1).2
  have n8 := tF_isNil ⟨w.heap.size, 0, none⟩ t ((w.alloc (.cells #[.pointer (some t)] 77)).alloc (.cells #[.pointer (some ⟨14, 77, none⟩), .pointer (some ⟨w.heap.size, 0, none⟩), .int .u64 150] 114)) (by simp)
  have xV := @run_callFunc_extern Tryd.prog 73 _ (fun args => ReflectliteValue.unpack (args.getD 0 (.tuple #[]))) Tryd.func73 (by kernel_rfl) (by kernel_rfl) (by kernel_rfl) (by kernel_rfl)
  have xT := @run_callFunc_extern Tryd.prog 74 _ (ReflectliteValue.methodAny (ReflectliteValue.valueError "reflectlite.Value.Type" 0) (fun t _ _ _ => ReflectliteType.toType t)) Tryd.func74 (by kernel_rfl) (by kernel_rfl) (by kernel_rfl) (by kernel_rfl)
  have xN := @run_callFunc_extern Tryd.prog 75 _ (ReflectliteValue.method (ReflectliteValue.valueError "reflectlite.Value.IsNil" 0) ReflectliteValue.isNil) Tryd.func75 (by kernel_rfl) (by kernel_rfl) (by kernel_rfl) (by kernel_rfl)
  have xK := @run_callFunc_extern Tryd.prog 167 _ (ReflectliteType.abiMethod fun t => do pure (.int .u8 (← Rtype.kind t))) Tryd.func167 (by kernel_rfl) (by kernel_rfl) (by kernel_rfl) (by kernel_rfl)
  have xE := @run_callFunc_extern Tryd.prog 180 _ (ReflectliteType.method ReflectliteType.elem) Tryd.func180 (by kernel_rfl) (by kernel_rfl) (by kernel_rfl) (by kernel_rfl)
  have xI := @run_callFunc_extern Tryd.prog 181 _ (ReflectliteType.relation "Implements" ReflectliteType.implements_) Tryd.func181 (by kernel_rfl) (by kernel_rfl) (by kernel_rfl) (by kernel_rfl)
  have f6 := tF_valueOf
  have f7 := tF_type
  have mK := methodKind
  have mE := methodElem
  have mI := methodImplements
  have k1 := tF_kindP
  have k2 := tF_kindE
  have e1 := tF_elemT
  have i1 := tF_implements
  clear hw1 he
  go_enter Tryd.func42, Tryd.ntmps42
  go_wp2_with fail
  refine HCL.out.mono ?_
  rintro er w3 ⟨rfl, hb⟩
  have HX := Lib.hid (HW1.out.trans (hb.mono HW1.out.size))
  clear hb HCL
  go_wp2
  go_ret
  exact ⟨rfl, HX.out⟩

set_option maxHeartbeats 4000000 in
set_option maxRecDepth 100000 in
theorem AsE_any (B : Nat) (v : Value) (l : List (ByteArray × Int)) (e : Int) (t : Addr) (old : Value) (w : World) (h : Chain B w v l e) (he : EtT w) (ht : w.cell? t = some old) (hf : w.frozen? t = false) :
    Calls Tryd.prog 42 #[v, .iface 80 (.pointer (some t))] w (AsSet t (.int .i64 e) w) := by
  have htl := cell_lt ht
  have hw1 := ((Below.refl w.heap.size w).alloc (Nat.le_refl _) (.cells #[.pointer (some t)] 80)).alloc (by simp) (.cells #[.pointer (some ⟨14, 80, none⟩), .pointer (some ⟨w.heap.size, 0, none⟩), .int .u64 150] 114)
  have HW1 := Lib.hid hw1
  have HCL := Lib.hid (asE_any B v l e ⟨w.heap.size, 0, none⟩ t old ((w.alloc (.cells #[.pointer (some t)] 80)).alloc (.cells #[.pointer (some ⟨14, 80, none⟩), .pointer (some ⟨w.heap.size, 0, none⟩), .int .u64 150] 114)) (h.below hw1) (by simp) (by rw [World.cell?_alloc_lt _ _ t (by simp; omega), World.cell?_alloc_lt _ _ t htl]; exact ht) (by rw [World.frozen?_alloc_old _ _ t (by simp; omega), World.frozen?_alloc_old _ _ t (Nat.ne_of_lt htl)]; exact hf))
  have hg2 := (he.below hw1).2
  have n8 := tE_isNil ⟨w.heap.size, 0, none⟩ t ((w.alloc (.cells #[.pointer (some t)] 80)).alloc (.cells #[.pointer (some ⟨14, 80, none⟩), .pointer (some ⟨w.heap.size, 0, none⟩), .int .u64 150] 114)) (by simp)
  have xV := @run_callFunc_extern Tryd.prog 73 _ (fun args => ReflectliteValue.unpack (args.getD 0 (.tuple #[]))) Tryd.func73 (by kernel_rfl) (by kernel_rfl) (by kernel_rfl) (by kernel_rfl)
  have xT := @run_callFunc_extern Tryd.prog 74 _ (ReflectliteValue.methodAny (ReflectliteValue.valueError "reflectlite.Value.Type" 0) (fun t _ _ _ => ReflectliteType.toType t)) Tryd.func74 (by kernel_rfl) (by kernel_rfl) (by kernel_rfl) (by kernel_rfl)
  have xN := @run_callFunc_extern Tryd.prog 75 _ (ReflectliteValue.method (ReflectliteValue.valueError "reflectlite.Value.IsNil" 0) ReflectliteValue.isNil) Tryd.func75 (by kernel_rfl) (by kernel_rfl) (by kernel_rfl) (by kernel_rfl)
  have xK := @run_callFunc_extern Tryd.prog 167 _ (ReflectliteType.abiMethod fun t => do pure (.int .u8 (← Rtype.kind t))) Tryd.func167 (by kernel_rfl) (by kernel_rfl) (by kernel_rfl) (by kernel_rfl)
  have xE := @run_callFunc_extern Tryd.prog 180 _ (ReflectliteType.method ReflectliteType.elem) Tryd.func180 (by kernel_rfl) (by kernel_rfl) (by kernel_rfl) (by kernel_rfl)
  have xI := @run_callFunc_extern Tryd.prog 181 _ (ReflectliteType.relation "Implements" ReflectliteType.implements_) Tryd.func181 (by kernel_rfl) (by kernel_rfl) (by kernel_rfl) (by kernel_rfl)
  have f6 := tE_valueOf
  have f7 := tE_type
  have mK := methodKind
  have mE := methodElem
  have mI := methodImplements
  have k1 := tE_kindP
  have k2 := tE_kindE
  have e1 := tE_elemT
  have i1 := tE_implements
  obtain ⟨ti, ui, rfl⟩ := h.iface
  clear hw1 he h
  go_enter Tryd.func42, Tryd.ntmps42
  go_wp2_with fail
  refine HCL.out.mono ?_
  rintro er w3 ⟨rfl, W1, hb, rfl⟩
  have HX := Lib.hid (HW1.out.trans (hb.mono HW1.out.size))
  clear hb HCL
  go_wp2
  go_ret
  exact ⟨rfl, W1, HX.out, rfl⟩

end Go.Proofs.YtknlhkkpheahlaaDoor
