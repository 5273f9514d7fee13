/- What the rows of the Script laws list: how it is read, and a world that meets it. -/
import Derived.Test.YtalkllfgedacoaaGreatDoorD28
import Derived.Deep.LoopGhost
import Derived.Test.YtalkllfgedacoaaGreatDoorCards
import Derived.Test.YtalkllfgedacoaaGreatDoorTie
import Derived.Test.YtalkllfgedacoaaGreatDoorD2
import Derived.Shelf.Vars
import Derived.ChangeMaps5
import Derived.Lay
import Derived.Deep.DeepHandedRow
import Derived.LaidMore
import Derived.Stop.LaidErr
import Derived.Stop.Joined
namespace Go.Proofs.YtalkllfgedacoaaGreatDoor
open Go.RowKit Go.Sort Go.Extern.Stop Go.Stop Go.Extern

/-- The target's Value, of a pointer that is kept at a. -/
abbrev tvV (PT : TypeId) (a : Addr) : Value := .agg #[.pointer (some ⟨9, PT, none⟩), .pointer (some a), .int .u64 150]

def AsSet (t : Addr) (x : Value) (w : World) (e : Ending) (w' : World) : Prop := e = .returned (.bool true) ∧ ∃ W1, Below w.heap.size w W1 ∧ w' = W1.setCell t x

theorem cell_lt {w : World} {t : Addr} {v : Value} (h : w.cell? t = some v) : t.block < w.heap.size := by
  rcases Nat.lt_or_ge t.block w.heap.size with h' | h'
  · exact h'
  · simp [World.cell?, Array.getElem?_eq_none h'] at h

set_option maxHeartbeats 4000000 in
set_option maxRecDepth 100000 in
theorem asF_hit (g : Nat) (a t : Addr) (old : Value) (w : World) (ha : w.cell? a = some (.pointer (some t))) (ht : w.cell? t = some old) (hf : w.frozen? t = false) :
    Calls Tryz.prog 92 #[faultV g, .iface 106 (.pointer (some t)), tvV 106 a, rtV 105] w (AsSet t (.pointer (some ⟨g, 0, none⟩)) w) := by
  have hal := cell_lt ha
  have htl := cell_lt ht
  have xO := @run_callFunc_extern Tryz.prog 131 _ (ReflectliteType.typeOf) Tryz.func131 (by kernel_rfl) (by kernel_rfl) (by kernel_rfl) (by kernel_rfl)
  have xA := @run_callFunc_extern Tryz.prog 215 _ (ReflectliteType.relation "AssignableTo" ReflectliteType.assignableTo) Tryz.func215 (by kernel_rfl) (by kernel_rfl) (by kernel_rfl) (by kernel_rfl)
  have xL := @run_callFunc_extern Tryz.prog 132 _ (ReflectliteValue.method (ReflectliteValue.valueError "reflectlite.Value.Elem" 0) ReflectliteValue.elem) Tryz.func132 (by kernel_rfl) (by kernel_rfl) (by kernel_rfl) (by kernel_rfl)
  have xV := @run_callFunc_extern Tryz.prog 89 _ (fun args => ReflectliteValue.unpack (args.getD 0 (.tuple #[]))) Tryz.func89 (by kernel_rfl) (by kernel_rfl) (by kernel_rfl) (by kernel_rfl)
  have xS := @run_callFunc_extern Tryz.prog 133 _ (ReflectliteValue.set) Tryz.func133 (by kernel_rfl) (by kernel_rfl) (by kernel_rfl) (by kernel_rfl)
  have tO := typeOfF
  have mA := methodAssignable
  have aF := asgFF
  have vF := valueOfF
  have el := tF_elemV a t (w.alloc (.cells #[.pointer (some ⟨9, 106, none⟩), .pointer (some a), .int .u64 150] 148)) (by rw [World.cell?_alloc_lt _ _ a hal]; exact ha)
  have st := setF t ⟨w.heap.size + 1, 0, none⟩ ⟨g, 0, none⟩ old ((w.alloc (.cells #[.pointer (some ⟨9, 106, none⟩), .pointer (some a), .int .u64 150] 148)).alloc (.cells #[.pointer (some ⟨g, 0, none⟩)] 105))
    (by rw [World.cell?_alloc_at _ _ _ _ (by simp)]; rfl)
    (by rw [World.cell?_alloc_lt _ _ t (by simp; omega), World.cell?_alloc_lt _ _ t htl]; exact ht)
    (by rw [World.frozen?_alloc_old _ _ t (by simp; omega), World.frozen?_alloc_old _ _ t (Nat.ne_of_lt htl)]; exact hf)
  have hb := Lib.hid (((Below.refl w.heap.size w).alloc (Nat.le_refl _) (.cells #[.pointer (some ⟨9, 106, none⟩), .pointer (some a), .int .u64 150] 148)).alloc (by simp) (.cells #[.pointer (some ⟨g, 0, none⟩)] 105))
  go_enter Tryz.func92, Tryz.ntmps92
  go_wp2
  refine wp_loop_rounds 1 ?_
  rw [rounds_succ]
  go_wp2
  go_ret
  exact ⟨rfl, _, hb.out, rfl⟩

set_option maxHeartbeats 4000000 in
set_option maxRecDepth 100000 in
theorem asF_miss (e : Int) (a t : Addr) (w : World) :
    Calls Tryz.prog 92 #[errnoV e, .iface 106 (.pointer (some t)), tvV 106 a, rtV 105] w fun er w' => er = .returned (.bool false) ∧ Below w.heap.size w w' := by
  have xO := @run_callFunc_extern Tryz.prog 131 _ (ReflectliteType.typeOf) Tryz.func131 (by kernel_rfl) (by kernel_rfl) (by kernel_rfl) (by kernel_rfl)
  have xA := @run_callFunc_extern Tryz.prog 215 _ (ReflectliteType.relation "AssignableTo" ReflectliteType.assignableTo) Tryz.func215 (by kernel_rfl) (by kernel_rfl) (by kernel_rfl) (by kernel_rfl)
  have tO := typeOfE
  have mA := methodAssignable
  have aF := asgEF
  have nA := noAsE
  have uE := noUnwrapE
  have vE := noUnwrapsE
  go_enter Tryz.func92, Tryz.ntmps92
  go_wp2
  refine wp_loop_rounds 1 ?_
  rw [rounds_succ]
  go_wp2
  go_ret
  exact ⟨rfl, (Below.refl _ _).alloc (Nat.le_refl _) _⟩

set_option maxHeartbeats 8000000 in
set_option maxRecDepth 100000 in
theorem asE_any (B : Nat) (v : Value) (l : List (ByteArray × Int)) (e : Int) (a t : Addr) (old : Value) (w : World) (h : Chain B w v l e) (ha : w.cell? a = some (.pointer (some t))) (ht : w.cell? t = some old) (hf : w.frozen? t = false) :
    Calls Tryz.prog 92 #[v, .iface 104 (.pointer (some t)), tvV 104 a, rtV 34] w (AsSet t (.int .i64 e) w) := by
  have hal := cell_lt ha
  have htl := cell_lt ht
  have hc0 := h.below ((Below.refl w.heap.size w).alloc (Nat.le_refl _) (.cells #[.pointer (some ⟨9, 104, none⟩), .pointer (some a), .int .u64 150] 148))
  have HC := Lib.hid hc0
  have hb := Lib.hid (((Below.refl w.heap.size w).alloc (Nat.le_refl _) (.cells #[.pointer (some ⟨9, 104, none⟩), .pointer (some a), .int .u64 150] 148)).alloc (by simp) (.cells #[.int .i64 e] 34))
  have xO := @run_callFunc_extern Tryz.prog 131 _ (ReflectliteType.typeOf) Tryz.func131 (by kernel_rfl) (by kernel_rfl) (by kernel_rfl) (by kernel_rfl)
  have xA := @run_callFunc_extern Tryz.prog 215 _ (ReflectliteType.relation "AssignableTo" ReflectliteType.assignableTo) Tryz.func215 (by kernel_rfl) (by kernel_rfl) (by kernel_rfl) (by kernel_rfl)
  have xL := @run_callFunc_extern Tryz.prog 132 _ (ReflectliteValue.method (ReflectliteValue.valueError "reflectlite.Value.Elem" 0) ReflectliteValue.elem) Tryz.func132 (by kernel_rfl) (by kernel_rfl) (by kernel_rfl) (by kernel_rfl)
  have xV := @run_callFunc_extern Tryz.prog 89 _ (fun args => ReflectliteValue.unpack (args.getD 0 (.tuple #[]))) Tryz.func89 (by kernel_rfl) (by kernel_rfl) (by kernel_rfl) (by kernel_rfl)
  have xS := @run_callFunc_extern Tryz.prog 133 _ (ReflectliteValue.set) Tryz.func133 (by kernel_rfl) (by kernel_rfl) (by kernel_rfl) (by kernel_rfl)
  have tOF := typeOfF
  have tOE := typeOfE
  have mA := methodAssignable
  have aE := asgEE
  have aF := asgFE
  have vE := valueOfE
  have nF := noAsF
  have uF := hasUnwrapF
  have mU := mUnwrap
  have el := tE_elemV a t (w.alloc (.cells #[.pointer (some ⟨9, 104, none⟩), .pointer (some a), .int .u64 150] 148)) (by rw [World.cell?_alloc_lt _ _ a hal]; exact ha)
  have st := setE t ⟨w.heap.size + 1, 0, none⟩ e old ((w.alloc (.cells #[.pointer (some ⟨9, 104, none⟩), .pointer (some a), .int .u64 150] 148)).alloc (.cells #[.int .i64 e] 34))
    (by rw [World.cell?_alloc_at _ _ _ _ (by simp)]; rfl)
    (by rw [World.cell?_alloc_lt _ _ t (by simp; omega), World.cell?_alloc_lt _ _ t htl]; exact ht)
    (by rw [World.frozen?_alloc_old _ _ t (by simp; omega), World.frozen?_alloc_old _ _ t (Nat.ne_of_lt htl)]; exact hf)
  clear h hc0
  go_enter Tryz.func92, Tryz.ntmps92
  go_wp2
  go_loopg [0] (l.length + 1) (fun gg x wr => ∃ r y, gg = r.length + 1 ∧ x = y ∧ wr = w.alloc (.cells #[.pointer (some ⟨9, 104, none⟩), .pointer (some a), .int .u64 150] 148) ∧ Chain B (w.alloc (.cells #[.pointer (some ⟨9, 104, none⟩), .pointer (some a), .int .u64 150] 148)) y r e)
  case atStart => exact ⟨l, v, rfl, rfl, rfl, HC.out⟩
  case round =>
    obtain ⟨r, y, hg, hy, rfl, hc⟩ := hrel
    have HG := Lib.hid hg
    clear hg
    cases r with
    | nil =>
      rw [show y = errnoV e from hc] at hy
      subst hy
      clear HC hc
      go_wp2
      go_ret
      exact ⟨rfl, _, hb.out, rfl⟩
    | cons x r =>
      obtain ⟨s, p⟩ := x
      obtain ⟨g, v', hv, _, hbk, hc⟩ := hc
      rw [hv] at hy
      subst hy hv
      have HB := Lib.hid hbk
      have HC' := Lib.hid hc
      clear hbk hc HC st el
      go_wp2_with fail
      refine (Unwrap_any g s p v' _ HB.out).mono ?_
      rintro er w2 ⟨rfl, rfl⟩
      obtain ⟨ti, ui, rfl⟩ := HC'.out.iface
      go_wp2
      go_roundg (r.length + 1)
      case measure => rw [HG.out]; simp
      case rel => exact ⟨r, _, rfl, rfl, rfl, HC'.out⟩

end Go.Proofs.YtalkllfgedacoaaGreatDoor

namespace Go.Proofs.YtalkllfgedacoaaGreatDoor
open Go.RowKit Go.Sort Go.Extern.Stop Go.Stop Go.Extern

set_option maxHeartbeats 4000000 in
set_option maxRecDepth 100000 in
theorem AsF_hit (g : Nat) (t : Addr) (old : Value) (w : World) (he : EtT w) (ht : w.cell? t = some old) (hf : w.frozen? t = false) :
    Calls Tryz.prog 51 #[faultV g, .iface 106 (.pointer (some t))] w (AsSet t (.pointer (some ⟨g, 0, none⟩)) w) := by
  have htl := cell_lt ht
  have hw1 := ((Below.refl w.heap.size w).alloc (Nat.le_refl _) (.cells #[.pointer (some t)] 106)).alloc (by simp) (.cells #[.pointer (some ⟨9, 106, none⟩), .pointer (some ⟨w.heap.size, 0, none⟩), .int .u64 150] 148)
  have HW1 := Lib.hid hw1
  have HCL := Lib.hid (asF_hit g ⟨w.heap.size, 0, none⟩ t old ((w.alloc (.cells #[.pointer (some t)] 106)).alloc (.cells #[.pointer (some ⟨9, 106, none⟩), .pointer (some ⟨w.heap.size, 0, none⟩), .int .u64 150] 148)) (by simp) (by rw [World.cell?_alloc_lt _ _ t (by simp; omega), World.cell?_alloc_lt _ _ t htl]; exact ht) (by rw [World.frozen?_alloc_old _ _ t (by simp; omega), World.frozen?_alloc_old _ _ t (Nat.ne_of_lt htl)]; exact hf))
  have hg2 := (he.below hw1).2
  have n8 := tF_isNil ⟨w.heap.size, 0, none⟩ t ((w.alloc (.cells #[.pointer (some t)] 106)).alloc (.cells #[.pointer (some ⟨9, 106, none⟩), .pointer (some ⟨w.heap.size, 0, none⟩), .int .u64 150] 148)) (by simp)
  have xV := @run_callFunc_extern Tryz.prog 89 _ (fun args => ReflectliteValue.unpack (args.getD 0 (.tuple #[]))) Tryz.func89 (by kernel_rfl) (by kernel_rfl) (by kernel_rfl) (by kernel_rfl)
  have xT := @run_callFunc_extern Tryz.prog 90 _ (ReflectliteValue.methodAny (ReflectliteValue.valueError "reflectlite.Value.Type" 0) (fun t _ _ _ => ReflectliteType.toType t)) Tryz.func90 (by kernel_rfl) (by kernel_rfl) (by kernel_rfl) (by kernel_rfl)
  have xN := @run_callFunc_extern Tryz.prog 91 _ (ReflectliteValue.method (ReflectliteValue.valueError "reflectlite.Value.IsNil" 0) ReflectliteValue.isNil) Tryz.func91 (by kernel_rfl) (by kernel_rfl) (by kernel_rfl) (by kernel_rfl)
  have xK := @run_callFunc_extern Tryz.prog 204 _ (ReflectliteType.abiMethod fun t => do pure (.int .u8 (← Rtype.kind t))) Tryz.func204 (by kernel_rfl) (by kernel_rfl) (by kernel_rfl) (by kernel_rfl)
  have xE := @run_callFunc_extern Tryz.prog 217 _ (ReflectliteType.method ReflectliteType.elem) Tryz.func217 (by kernel_rfl) (by kernel_rfl) (by kernel_rfl) (by kernel_rfl)
  have xI := @run_callFunc_extern Tryz.prog 218 _ (ReflectliteType.relation "Implements" ReflectliteType.implements_) Tryz.func218 (by kernel_rfl) (by kernel_rfl) (by kernel_rfl) (by kernel_rfl)
  have f6 := tF_valueOf
  have f7 := tF_type
  have mK := methodKind
  have mE := methodElem
  have mI := methodImplements
  have k1 := tF_kindP
  have k2 := tF_kindE
  have e1 := tF_elemT
  have i1 := tF_implements
  clear hw1 he
  go_enter Tryz.func51, Tryz.ntmps51
  go_wp2_with fail
  refine HCL.out.mono ?_
  rintro er w3 ⟨rfl, W1, hb, rfl⟩
  have HX := Lib.hid (HW1.out.trans (hb.mono HW1.out.size))
  clear hb HCL
  go_wp2
  go_ret
  exact ⟨rfl, W1, HX.out, rfl⟩

set_option maxHeartbeats 4000000 in
set_option maxRecDepth 100000 in
theorem AsF_miss (e : Int) (t : Addr) (w : World) (he : EtT w) :
    Calls Tryz.prog 51 #[errnoV e, .iface 106 (.pointer (some t))] w fun er w' => er = .returned (.bool false) ∧ Below w.heap.size w w' := by
  have hw1 := ((Below.refl w.heap.size w).alloc (Nat.le_refl _) (.cells #[.pointer (some t)] 106)).alloc (by simp) (.cells #[.pointer (some ⟨9, 106, none⟩), .pointer (some ⟨w.heap.size, 0, none⟩), .int .u64 150] 148)
  have HW1 := Lib.hid hw1
  have HCL := Lib.hid (asF_miss e ⟨w.heap.size, 0, none⟩ t ((w.alloc (.cells #[.pointer (some t)] 106)).alloc (.cells #[.pointer (some ⟨9, 106, none⟩), .pointer (some ⟨w.heap.size, 0, none⟩), .int .u64 150] 148)))
  have hg2 := (he.below hw1).2
  have n8 := tF_isNil ⟨w.heap.size, 0, none⟩ t ((w.alloc (.cells #[.pointer (some t)] 106)).alloc (.cells #[.pointer (some ⟨9, 106, none⟩), .pointer (some ⟨w.heap.size, 0, none⟩), .int .u64 150] 148)) (by simp)
  have xV := @run_callFunc_extern Tryz.prog 89 _ (fun args => ReflectliteValue.unpack (args.getD 0 (.tuple #[]))) Tryz.func89 (by kernel_rfl) (by kernel_rfl) (by kernel_rfl) (by kernel_rfl)
  have xT := @run_callFunc_extern Tryz.prog 90 _ (ReflectliteValue.methodAny (ReflectliteValue.valueError "reflectlite.Value.Type" 0) (fun t _ _ _ => ReflectliteType.toType t)) Tryz.func90 (by kernel_rfl) (by kernel_rfl) (by kernel_rfl) (by kernel_rfl)
  have xN := @run_callFunc_extern Tryz.prog 91 _ (ReflectliteValue.method (ReflectliteValue.valueError "reflectlite.Value.IsNil" 0) ReflectliteValue.isNil) Tryz.func91 (by kernel_rfl) (by kernel_rfl) (by kernel_rfl) (by kernel_rfl)
  have xK := @run_callFunc_extern Tryz.prog 204 _ (ReflectliteType.abiMethod fun t => do pure (.int .u8 (← Rtype.kind t))) Tryz.func204 (by kernel_rfl) (by kernel_rfl) (by kernel_rfl) (by kernel_rfl)
  have xE := @run_callFunc_extern Tryz.prog 217 _ (ReflectliteType.method ReflectliteType.elem) Tryz.func217 (by kernel_rfl) (by kernel_rfl) (by kernel_rfl) (by kernel_rfl)
  have xI := @run_callFunc_extern Tryz.prog 218 _ (ReflectliteType.relation "Implements" ReflectliteType.implements_) Tryz.func218 (by kernel_rfl) (by kernel_rfl) (by kernel_rfl) (by kernel_rfl)
  have f6 := tF_valueOf
  have f7 := tF_type
  have mK := methodKind
  have mE := methodElem
  have mI := methodImplements
  have k1 := tF_kindP
  have k2 := tF_kindE
  have e1 := tF_elemT
  have i1 := tF_implements
  clear hw1 he
  go_enter Tryz.func51, Tryz.ntmps51
  go_wp2_with fail
  refine HCL.out.mono ?_
  rintro er w3 ⟨rfl, hb⟩
  have HX := Lib.hid (HW1.out.trans (hb.mono HW1.out.size))
  clear hb HCL
  go_wp2
  go_ret
  exact ⟨rfl, HX.out⟩

set_option maxHeartbeats 4000000 in
set_option maxRecDepth 100000 in
theorem AsE_any (B : Nat) (v : Value) (l : List (ByteArray × Int)) (e : Int) (t : Addr) (old : Value) (w : World) (h : Chain B w v l e) (he : EtT w) (ht : w.cell? t = some old) (hf : w.frozen? t = false) :
    Calls Tryz.prog 51 #[v, .iface 104 (.pointer (some t))] w (AsSet t (.int .i64 e) w) := by
  have htl := cell_lt ht
  have hw1 := ((Below.refl w.heap.size w).alloc (Nat.le_refl _) (.cells #[.pointer (some t)] 104)).alloc (by simp) (.cells #[.pointer (some ⟨9, 104, none⟩), .pointer (some ⟨w.heap.size, 0, none⟩), .int .u64 150] 148)
  have HW1 := Lib.hid hw1
  have HCL := Lib.hid (asE_any B v l e ⟨w.heap.size, 0, none⟩ t old ((w.alloc (.cells #[.pointer (some t)] 104)).alloc (.cells #[.pointer (some ⟨9, 104, none⟩), .pointer (some ⟨w.heap.size, 0, none⟩), .int .u64 150] 148)) (h.below hw1) (by simp) (by rw [World.cell?_alloc_lt _ _ t (by simp; omega), World.cell?_alloc_lt _ _ t htl]; exact ht) (by rw [World.frozen?_alloc_old _ _ t (by simp; omega), World.frozen?_alloc_old _ _ t (Nat.ne_of_lt htl)]; exact hf))
  have hg2 := (he.below hw1).2
  have n8 := tE_isNil ⟨w.heap.size, 0, none⟩ t ((w.alloc (.cells #[.pointer (some t)] 104)).alloc (.cells #[.pointer (some ⟨9, 104, none⟩), .pointer (some ⟨w.heap.size, 0, none⟩), .int .u64 150] 148)) (by simp)
  have xV := @run_callFunc_extern Tryz.prog 89 _ (fun args => ReflectliteValue.unpack (args.getD 0 (.tuple #[]))) Tryz.func89 (by kernel_rfl) (by kernel_rfl) (by kernel_rfl) (by kernel_rfl)
  have xT := @run_callFunc_extern Tryz.prog 90 _ (ReflectliteValue.methodAny (ReflectliteValue.valueError "reflectlite.Value.Type" 0) (fun t _ _ _ => ReflectliteType.toType t)) Tryz.func90 (by kernel_rfl) (by kernel_rfl) (by kernel_rfl) (by kernel_rfl)
  have xN := @run_callFunc_extern Tryz.prog 91 _ (ReflectliteValue.method (ReflectliteValue.valueError "reflectlite.Value.IsNil" 0) ReflectliteValue.isNil) Tryz.func91 (by kernel_rfl) (by kernel_rfl) (by kernel_rfl) (by kernel_rfl)
  have xK := @run_callFunc_extern Tryz.prog 204 _ (ReflectliteType.abiMethod fun t => do pure (.int .u8 (← Rtype.kind t))) Tryz.func204 (by kernel_rfl) (by kernel_rfl) (by kernel_rfl) (by kernel_rfl)
  have xE := @run_callFunc_extern Tryz.prog 217 _ (ReflectliteType.method ReflectliteType.elem) Tryz.func217 (by kernel_rfl) (by kernel_rfl) (by kernel_rfl) (by kernel_rfl)
  have xI := @run_callFunc_extern Tryz.prog 218 _ (ReflectliteType.relation "Implements" ReflectliteType.implements_) Tryz.func218 (by kernel_rfl) (by kernel_rfl) (by kernel_rfl) (by kernel_rfl)
  have f6 := tE_valueOf
  have f7 := tE_type
  have mK := methodKind
  have mE := methodElem
  have mI := methodImplements
  have k1 := tE_kindP
  have k2 := tE_kindE
  have e1 := tE_elemT
  have i1 := tE_implements
  obtain ⟨ti, ui, rfl⟩ := h.iface
  clear hw1 he h
  go_enter Tryz.func51, Tryz.ntmps51
  go_wp2_with fail
  refine HCL.out.mono ?_
  rintro er w3 ⟨rfl, W1, hb, rfl⟩
  have HX := Lib.hid (HW1.out.trans (hb.mono HW1.out.size))
  clear hb HCL
  go_wp2
  go_ret
  exact ⟨rfl, W1, HX.out, rfl⟩

end Go.Proofs.YtalkllfgedacoaaGreatDoor

namespace Go.Proofs.YtalkllfgedacoaaGreatDoor
open Go.RowKit Go.Sort Go.Extern.Stop Go.Stop Go.Extern

/-- What errors.As leaves in a variable that its caller has just made. -/
theorem as_step {w W1 : World} {T : TypeId} {v0 : Value} (hb : Below (w.alloc (.cells #[v0] T)).heap.size (w.alloc (.cells #[v0] T)) W1) (v : Value) :
    Below w.heap.size w (W1.setCell ⟨w.heap.size, 0, none⟩ v) ∧ Blk (W1.setCell ⟨w.heap.size, 0, none⟩ v) w.heap.size T [v] := by
  constructor
  · exact (((Below.refl _ _).alloc (Nat.le_refl _) _).trans (hb.mono (by simp))).setCell (p := ⟨w.heap.size, 0, none⟩) (Nat.le_refl _) _
  · exact ((Blk.new w T [v0]).below hb (by simp)).set_ 0 v

set_option maxHeartbeats 1000000 in
theorem Code_nil (w : World) : Calls Tryz.prog 23 #[.nilIface] w fun e w' => e = .returned (.int .i64 0) ∧ Below w.heap.size w w' := by
  go_enter Tryz.func23, Tryz.ntmps23
  go_wp2
  go_ret
  exact ⟨rfl, (Below.refl _ _).alloc (Nat.le_refl _) _⟩

set_option maxHeartbeats 4000000 in
set_option maxRecDepth 100000 in
theorem Code_any (B : Nat) (v : Value) (l : List (ByteArray × Int)) (e : Int) (w : World) (h : Chain B w v l e) (he : EtT w) :
    Calls Tryz.prog 23 #[v] w fun er w' => er = .returned (.int .i64 e) ∧ Below w.heap.size w w' := by
  have hbw := (Below.refl w.heap.size w).alloc (Nat.le_refl _) (.cells #[.int .i64 0] 34)
  have HA := Lib.hid (AsE_any B v l e ⟨w.heap.size, 0, none⟩ (.int .i64 0) _ (h.below hbw) (he.below hbw) (by simp) (by simp))
  obtain ⟨ti, ui, rfl⟩ := h.iface
  clear h he hbw
  go_enter Tryz.func23, Tryz.ntmps23
  go_wp2_with fail
  refine HA.out.mono ?_
  rintro er w3 ⟨rfl, W1, hb, rfl⟩
  obtain ⟨h1, h2⟩ := as_step hb (.int .i64 e)
  have H1 := Lib.hid h1
  have x0 := h2.cell (i := 0) rfl
  clear hb h1 h2 HA
  generalize W1.setCell ⟨w.heap.size, 0, none⟩ (.int .i64 e) = w4 at *
  go_wp2
  go_ret
  exact ⟨rfl, H1.out⟩

theorem str_ne {a b : ByteArray} (h : ¬ a = b) : (a.toList == b.toList) = false := by
  rw [beq_eq_false_iff_ne, ByteArray.toList_eq, ByteArray.toList_eq]
  exact fun h' => h (ByteArray.ext (Array.toList_inj.mp h'))

/-- The place of the innermost one of that name: found so far, and behind. -/
def placeL (what : ByteArray) : List (ByteArray × Int) → Int × Bool → Int × Bool
  | [], r => r
  | (s, p) :: l, r => placeL what l (if s = what then (p, true) else r)

set_option maxHeartbeats 8000000 in
set_option maxRecDepth 100000 in
theorem Place_any (what : ByteArray) (B : Nat) (v : Value) (l : List (ByteArray × Int)) (e : Int) (w : World) (h : Chain B w v l e) (he : EtT w) (hl : l.length < 64) :
    Calls Tryz.prog 24 #[v, .string what] w fun er w' => er = .returned (.tuple #[.int .i64 (placeL what l (0, false)).1, .bool (placeL what l (0, false)).2]) ∧ Below w.heap.size w w' := by
  have HC := Lib.hid h
  have HE := Lib.hid he
  generalize hn : l.length = n at *
  have HN := Lib.hid hn
  generalize hpl : placeL what l (0, false) = pl at *
  have HPL := Lib.hid hpl
  clear h he hn hpl
  go_enter Tryz.func24, Tryz.ntmps24
  go_wp2
  go_loopg [0, 6, 7, 9] (n + 1) (fun g x at_ fd i wr => ∃ (k : Nat) (r : List (ByteArray × Int)) (y : Value) (f : Int × Bool), g = r.length + 1 ∧ k + r.length = n ∧ x = y ∧ i = .int .i64 k ∧ at_ = .int .i64 f.1 ∧ fd = .bool f.2 ∧ placeL what r f = pl ∧ Chain B wr y r e ∧ EtT wr ∧ Below w.heap.size w wr)
  case atStart => exact ⟨0, l, v, (0, false), by rw [HN.out], by rw [HN.out]; omega, rfl, rfl, rfl, rfl, HPL.out, HC.out, HE.out, Below.refl _ _⟩
  case round =>
    obtain ⟨k, r, y, f, hg, hkr, hy, rfl, rfl, rfl, hpf, hc, het, hb⟩ := hrel
    have HG := Lib.hid hg
    have HB := Lib.hid hb
    have HPF := Lib.hid hpf
    have q0 : (k : Int) < 64 := by omega
    have hbw := (Below.refl wr.heap.size wr).alloc (Nat.le_refl _) (.cells #[.pointer none] 105)
    have hb1 := hb.alloc hb.size (.cells #[.pointer none] 105)
    have HB1 := Lib.hid hb1
    clear hg hb hb1 hpf
    cases r with
    | nil =>
      rw [show y = errnoV e from hc] at hy
      subst hy
      have HA := Lib.hid (AsF_miss e ⟨wr.heap.size, 0, none⟩ _ (het.below hbw))
      have HF := Lib.hid (show f = pl from HPF.out)
      clear hc het hbw hkr HC HE HPF
      go_wp2_with fail
      refine HA.out.mono ?_
      rintro er w3 ⟨rfl, hb3⟩
      have HX := Lib.hid (HB1.out.trans (hb3.mono HB1.out.size))
      clear hb3 HA
      go_wp2
      go_ret2
      exact ⟨by rw [HF.out]; rfl, HX.out⟩
    | cons a r =>
      obtain ⟨s, p⟩ := a
      obtain ⟨g, v', hv, hBg, hbk, hc⟩ := hc
      rw [hv] at hy
      subst hy hv
      have HA := Lib.hid (AsF_hit g ⟨wr.heap.size, 0, none⟩ (.pointer none) _ (het.below hbw) (by simp) (by simp))
      have HK := Lib.hid hbk
      have HC2 := Lib.hid hc
      have HT2 := Lib.hid het
      have HKR := Lib.hid hkr
      have q1 : (k : Int) + 1 ≤ 64 := by simp at hkr; omega
      clear hc het hbk hbw HC HE hkr
      by_cases hsw : s = what
      case' pos =>
        have HS := Lib.hid hsw
        subst hsw
        have HF := Lib.hid (show placeL s r (p, true) = pl by have := HPF.out; rw [placeL, if_pos rfl] at this; exact this)
      case' neg =>
        have HF := Lib.hid (show placeL what r f = pl by have := HPF.out; rw [placeL, if_neg hsw] at this; exact this)
        have b1 := str_ne hsw
        have HS := Lib.hid hsw
        clear hsw
      all_goals
        go_wp2_with fail
        refine HA.out.mono ?_
        rintro er w3 ⟨rfl, W1, hb3, rfl⟩
        obtain ⟨h1, h2⟩ := as_step hb3 (.pointer (some ⟨g, 0, none⟩))
        have H1 := Lib.hid h1
        have x0 := h2.cell (i := 0) rfl
        have hK := HK.out.below h1 HK.out.lt
        have y0 := hK.cell (i := 0) rfl
        have y1 := hK.cell (i := 1) rfl
        have y2 := hK.cell (i := 2) rfl
        clear hb3 h1 h2 HA hK
        generalize W1.setCell ⟨wr.heap.size, 0, none⟩ (.pointer (some ⟨g, 0, none⟩)) = w4 at *
        go_wp2
        go_roundg (r.length + 1)
        case measure => rw [HG.out]; simp
        case rel => exact ⟨k + 1, r, v', _, rfl, by have := HKR.out; simp at this; omega, rfl, by go_num, rfl, rfl, HF.out, HC2.out.below H1.out, HT2.out.below H1.out, HB.out.trans (H1.out.mono HB.out.size)⟩

end Go.Proofs.YtalkllfgedacoaaGreatDoor

namespace Go.Proofs.YtalkllfgedacoaaGreatDoor
open Go.RowKit Go.Sort

def ex24a : ByteArray := ⟨#[35, 32, 116, 119, 111, 10, 99, 97, 108, 108, 32, 49, 32, 115, 101, 108, 101, 99, 116, 32, 100, 101, 102, 97, 117, 108, 116, 32, 114, 101, 99, 118, 58, 56, 32, 115, 101, 110, 100, 58, 57, 58, 53, 10, 112, 105, 99, 107, 32, 49, 32, 50, 10]⟩
def ex24b : ByteArray := ⟨#[112, 105, 99, 107, 32, 48, 10, 112, 105, 99, 107, 32, 48, 32, 48, 10]⟩
def ex24t : ByteArray := ⟨#[99, 97, 108, 108, 32, 49, 32, 115, 101, 108, 101, 99, 116, 32, 100, 101, 102, 97, 117, 108, 116, 32, 114, 101, 99, 118, 58, 56, 32, 115, 101, 110, 100, 58, 57, 58, 53, 10, 112, 105, 99, 107, 32, 49, 32, 50, 10]⟩
def ex24l : List Ev := [evCall 1 ⟨3, 0, 0, true, [⟨2, 8, 0⟩, ⟨1, 9, 5⟩]⟩, evPick 1, evPick 1]
theorem ex24_read : readQ ex24a = .right ex24l := by decide +kernel
theorem ex24_wrong : readQ ex24b = .wrong 2 17 := by decide +kernel
theorem ex24_text : textP ex24l = some ex24t := by decide +kernel
theorem ex24_in : ∀ e ∈ ex24l, EvIn e ∧ EvSm e := by
  intro e he
  simp only [ex24l, List.mem_cons, List.not_mem_nil, or_false] at he
  rcases he with rfl | rfl | rfl
  · exact ⟨⟨⟨by decide, by decide⟩, ⟨by decide, by decide⟩, ⟨by decide, by decide⟩, ⟨by decide, by decide⟩, (fun k hk => by simp only [evCall, List.mem_cons, List.not_mem_nil, or_false] at hk; rcases hk with rfl | rfl <;> exact ⟨⟨by decide, by decide⟩, ⟨by decide, by decide⟩⟩), by decide, ⟨by decide, by decide⟩, (fun k hk => by cases hk), by decide⟩, ⟨by decide, by decide⟩⟩
  · exact ⟨⟨⟨by decide, by decide⟩, ⟨by decide, by decide⟩, ⟨by decide, by decide⟩, ⟨by decide, by decide⟩, (fun k hk => by cases hk), by decide, ⟨by decide, by decide⟩, (fun k hk => by cases hk), by decide⟩, ⟨by decide, by decide⟩⟩
  · exact ⟨⟨⟨by decide, by decide⟩, ⟨by decide, by decide⟩, ⟨by decide, by decide⟩, ⟨by decide, by decide⟩, (fun k hk => by cases hk), by decide, ⟨by decide, by decide⟩, (fun k hk => by cases hk), by decide⟩, ⟨by decide, by decide⟩⟩

set_option maxHeartbeats 8000000 in
set_option maxRecDepth 100000 in
theorem awake24_any (w : World) (he : ErrT w) (ht : TabT w) (hm : MLT w) (hq : EtT w) : Calls Tryz.prog 25 #[] w fun e w' => e = .returned (.bool true) ∧ Below w.heap.size w w' := by
  have HE := Lib.hid he
  have HT := Lib.hid ht
  have HM := Lib.hid hm
  have HQ := Lib.hid hq
  have H1 := Lib.hid (sread_rt (s := ex24a) (w := w) (by decide) he ht hm ex24_read)
  have H2 := Lib.hid (fun W A c (h : Below w.heap.size w W) (h2 : EvsIn W A 3 ex24l) (h3 : 3 ≤ c) => Text24_any A 3 c ex24l W (by decide) h3 h2 ex24_in (he.below h) (ht.below h) (hm.below h))
  have H3 := Lib.hid (fun W (h : Below w.heap.size w W) => sread_wr (s := ex24b) (w := W) (by decide) (he.below h) (ht.below h) (hm.below h) ex24_wrong)
  rw [ex24_text] at H2
  simp only [Option.getD_some, Option.isSome_some] at H2
  unfold SReadG at H1
  unfold SReadB at H3
  have hl3 : ex24l.length = 3 := rfl
  rw [hl3] at H1
  have HP := Lib.hid (fun W B v (h : Below w.heap.size w W) (hc : Chain B W v [(lineB, ((2 : Nat) : Int))] ((17 : Nat) : Int)) => Place_any lineB B v [(lineB, ((2 : Nat) : Int))] ((17 : Nat) : Int) W hc (hq.below h) (by decide))
  have HC := Lib.hid (fun W B v (h : Below w.heap.size w W) (hc : Chain B W v [(lineB, ((2 : Nat) : Int))] ((17 : Nat) : Int)) => Code_any B v [(lineB, ((2 : Nat) : Int))] ((17 : Nat) : Int) W hc (hq.below h))
  have hpl : placeL lineB [(lineB, ((2 : Nat) : Int))] (0, false) = (2, true) := by decide
  rw [hpl] at HP
  simp only at HP
  unfold ex24a at H1
  unfold ex24b at H3
  unfold ex24t at H2
  unfold lineB at HP
  clear he ht hm hq hl3 hpl
  go_enter Tryz.func25, Tryz.ntmps25
  go_upto_region 2 with (go_at_call 21; refine H1.out.mono ?_; rintro er w1 ⟨A, c, rfl, hev, hnil, hc3, _, hb1⟩; have HEV := Lib.hid hev; have HB1 := Lib.hid hb1; clear hev hnil hb1)
  have HC3 := Lib.hid hc3
  go_upto_region 3 with (go_at_call 29; refine (H2.out w1 A c HB1.out HEV.out HC3.out).mono ?_; rintro er w2 ⟨rfl, hb2⟩; have HB2 := Lib.hid (HB1.out.trans (hb2.mono HB1.out.size)); have HEV2 := Lib.hid (HEV.out.below hb2); clear hb2)
  go_upto_region 4 with (go_at_call 21; refine (H3.out w2 HB2.out).mono ?_; rintro er w3 ⟨_, v, rfl, hch, hb3⟩; have HCH := Lib.hid hch; have HB3 := Lib.hid (HB2.out.trans (hb3.mono HB2.out.size)); have HEV3 := Lib.hid (HEV2.out.below hb3); clear hch hb3)
  go_upto_region 5 with (go_at_call 24; refine (HP.out w3 _ v HB3.out HCH.out).mono ?_; rintro er w4 ⟨rfl, hb4⟩; have HCH4 := Lib.hid (HCH.out.below hb4); have HB4 := Lib.hid (HB3.out.trans (hb4.mono HB3.out.size)); have HEV4 := Lib.hid (HEV3.out.below hb4); clear hb4)
  obtain ⟨la, hla, hra, hea⟩ := HEV4.out.ex
  obtain ⟨b, o, rfl, hbl, hcl⟩ := hra.at_ (by rw [rows_length, hla]; decide)
  match la, hla, hea, hcl with
  | [a0, a1, a2], _, hea, hcl =>
  obtain ⟨h0, h1, h2, _⟩ := hea
  obtain ⟨ak, at_, ⟨qk, qa, qv, qd, A, n, c⟩, ai, OA, on, oc⟩ := a0
  obtain ⟨_, _, _, _, _, x5, x6, _, _⟩ := ev_cells hcl (k := 0) (by simp) rfl
  obtain ⟨_, y1, _, _, _, _, _, _, _⟩ := ev_cells hcl (k := 2) (by simp) rfl
  have g5 := h0.qd
  have g1 := h2.thread
  have gl := h0.req.len
  have gr := h0.req.rd
  simp only [List.getD_cons_zero, List.getD_cons_succ, Nat.zero_mul, Nat.add_zero] at x5 x6 y1
  simp only [evCall, evPick, List.length_cons, List.length_nil] at g5 g1 gl gr
  subst g5
  rw [g1] at y1
  simp only [Nat.zero_add, Nat.reduceAdd] at gl
  subst gl
  obtain ⟨b2, o2, rfl, hbl2, hcl2⟩ := gr.at_ (by rw [rows_length]; decide)
  obtain ⟨_, _, z2⟩ := cse_cells hcl2 (k := 1) (by decide) rfl
  simp only [List.getD_cons_zero, List.getD_cons_succ, Nat.reduceMul] at y1 z2
  have HCD := Lib.hid (HC.out w4 _ v HB4.out HCH4.out)
  go_wp2_with (go_at_call 23; refine HCD.out.mono ?_; rintro er w5 ⟨rfl, hb5⟩)
  go_ret
  exact ⟨by rfl, HB4.out.trans (hb5.mono HB4.out.size)⟩

end Go.Proofs.YtalkllfgedacoaaGreatDoor

namespace Go.Proofs.YtalkllfgedacoaaGreatDoor
open Go.ChangeShapes Go.WideShapes Go.ChangeAt Go.RowKit Go.Deep

def scrN : List (String × DataW Unit) := [("math/bits.deBruijn32tab", Rows.laid_math_bits_deBruijn32tab), ("math/bits.deBruijn64tab", Rows.laid_math_bits_deBruijn64tab), ("internal/strconv.uint64pow10", Rows.laid_internal_strconv_uint64pow10), ("unicode/utf8.acceptRanges", Rows.laid_unicode_utf8_acceptRanges), ("strconv.ErrRange", Rows.laid_strconv_ErrRange), ("strconv.ErrSyntax", Rows.laid_strconv_ErrSyntax), ("unicode/utf8.first", Rows.laid_unicode_utf8_first)]
def scrL : List (String × DataW Unit) := [("math/bits.deBruijn32tab", Rows.laid_math_bits_deBruijn32tab), ("math/bits.deBruijn64tab", Rows.laid_math_bits_deBruijn64tab), ("internal/strconv.uint64pow10", Rows.laid_internal_strconv_uint64pow10), ("unicode/utf8.acceptRanges", Rows.laid_unicode_utf8_acceptRanges), ("errors.errorType", Rows.laid_errors_errorType), ("strconv.ErrRange", Rows.laid_strconv_ErrRange), ("strconv.ErrSyntax", Rows.laid_strconv_ErrSyntax), ("unicode/utf8.first", Rows.laid_unicode_utf8_first)]
theorem scr_parts {W : World} (h : laidMetH Tryz.prog scrL W) : laidMet Tryz.prog scrN W ∧ handlesMet Tryz.prog [("errors.errorType", Rows.laid_errors_errorType)] W := h

theorem scr_tab {W : World} (h : laidMetH Tryz.prog scrL W) : TabT W :=
  Lib.tabIs_of_head (rest := _) (show Tryz.prog.globalNamed "internal/strconv.uint64pow10" = some 2 by kernel_rfl) (show (Tryz.prog.globals[2]?).map (·.type) = some 234 by kernel_rfl) Tryz.underlying234 Tryz.underlying28 (by kernel_rfl) (by kernel_rfl) (scr_parts h).1.tail.tail

theorem scr_et {W : World} (h : laidMetH Tryz.prog scrL W) : EtT W := by
  have h' := scr_parts h
  obtain ⟨name, u, ty, e1, e2, e3, e4, e5⟩ := h'.2 _ (List.mem_singleton.2 rfl)
  have en : name = [101, 114, 114, 111, 114] := (Option.some.inj e1).symm
  subst en
  obtain rfl := Option.some.inj ((show (Tryz.prog.cutTypes.find? (·.1 == "internal/reflectlite.rtype")).map (·.2) = some 189 by kernel_rfl).symm.trans e2)
  have hm : ty ∈ (List.range Tryz.prog.types.size).filter fun t => Tryz.prog.rowNamed t [101, 114, 114, 111, 114] := List.mem_filter.2 ⟨List.mem_range.2 e3, e4⟩
  rw [show ((List.range Tryz.prog.types.size).filter fun t => Tryz.prog.rowNamed t [101, 114, 114, 111, 114]) = [63] by kernel_rfl] at hm
  obtain rfl := List.mem_singleton.1 hm
  have hh : typeHandle Tryz.prog 63 = .pointer (some ⟨9, 63, none⟩) := by kernel_rfl
  rw [hh] at e5
  have hc : W.cell? ⟨0, 0, none⟩ = some (rtV 63) := by simpa using World.var?_cell (show Tryz.prog.globalNamed "errors.errorType" = some 0 by kernel_rfl) e5 0
  exact ⟨cell_lt hc, hc⟩

theorem err_star : "*" ++ "errors.errorString" = "*errors.errorString" := by decide
theorem err_row (u : TypeId) (h : Tryz.prog.typeName? 3 u = some "*errors.errorString") : u = 256 :=
  typeName_ptr_named (nm := "errors.errorString") (by rw [err_star]; kernel_rfl) (by kernel_rfl) (by decide) u (by rw [err_star]; exact h)
theorem scr_err {W : World} (h : laidMetH Tryz.prog scrL W) : ErrT W := by
  have h4 := (scr_parts h).1.tail.tail.tail.tail
  obtain ⟨a1, s1, hv1, _⟩ := laid_sentinel h4 (g := 6) (ti := 63) (tp := 256) (te := 258) (ts := 9) (by kernel_rfl) (by kernel_rfl) Tryz.underlying63 err_row Tryz.underlying256 Tryz.underlying258 rfl rfl Tryz.underlying9 (by kernel_rfl) (by kernel_rfl)
  obtain ⟨a2, s2, hv2, _⟩ := laid_sentinel h4.tail (g := 5) (ti := 63) (tp := 256) (te := 258) (ts := 9) (by kernel_rfl) (by kernel_rfl) Tryz.underlying63 err_row Tryz.underlying256 Tryz.underlying258 rfl rfl Tryz.underlying9 (by kernel_rfl) (by kernel_rfl)
  have c1 : W.cell? ⟨6, 0, none⟩ = some (.iface 256 (.pointer (some a1))) := by simpa using World.var?_cell (show Tryz.prog.globalNamed "strconv.ErrRange" = some 6 by kernel_rfl) hv1 0
  have c2 : W.cell? ⟨5, 0, none⟩ = some (.iface 256 (.pointer (some a2))) := by simpa using World.var?_cell (show Tryz.prog.globalNamed "strconv.ErrSyntax" = some 5 by kernel_rfl) hv2 0
  exact ⟨⟨World.block_lt_of_cell? _ _ c2, _, c2, .inr ⟨_, _, rfl⟩⟩, ⟨World.block_lt_of_cell? _ _ c1, _, c1, .inr ⟨_, _, rfl⟩⟩⟩
theorem scr_ml {W : World} (h : W.ShapedOpen Tryz.prog) : MLT W := by
  obtain ⟨m, hm⟩ := cell_of_shapedOpen_int (g := 1) (t := 3) (zero := #[.int .i64 0]) (k := .i64) h (by decide +kernel) (by kernel_rfl) rfl (by kernel_rfl) (by kernel_rfl) Tryz.underlying3
  exact ⟨World.block_lt_of_cell? _ _ hm, m, hm⟩

section
variable {H : Type} {enc : TypeId × Value → H} {w : World} {base : Nat} {held : Bool}
set_option maxRecDepth 100000 in
theorem str_arg {v : Value} {d : DataW H} {p : List MemPlace} (hv : Value.okWide Tryz.prog w .any base 9 v) (h : DataW.Trod enc Tryz.prog w 0 (fun _ => true) held 9 v d p) : ∃ s : ByteArray, v = .string s ∧ s.size ≤ maxLen := by
  obtain ⟨n, hn⟩ := h
  obtain ⟨s, e, _, hw⟩ := DataW.trod_string Tryz.underlying9 hn
  obtain ⟨s', rfl⟩ := okWide_string Tryz.underlying9 hv
  have e' : [Value.string s'] = [.string s] := e
  injection e' with e' _
  injection e' with e'
  subst e'
  exact ⟨_, rfl, hw⟩

set_option maxRecDepth 100000 in
theorem str_argW {v : Value} {d : DataW H} {p : List MemPlace} (hv : Value.okWide Tryz.prog w .any base 9 v) (h : DataW.Trod enc Tryz.prog w 0 (fun _ => true) held 9 v d p) (hf : Fit Tryz.prog 9 d) : ∃ s : ByteArray, v = .string s ∧ s.size ≤ 140737488351232 := by
  obtain ⟨n, hn⟩ := h
  obtain ⟨s, e, hd, _⟩ := DataW.trod_string Tryz.underlying9 hn
  obtain ⟨s', rfl⟩ := okWide_string Tryz.underlying9 hv
  have e' : [Value.string s'] = [.string s] := e
  injection e' with e' _
  injection e' with e'
  subst e'
  refine ⟨_, rfl, ?_⟩
  injection hd with hd _
  subst hd
  have h1 : s'.data.toList.length ≤ reachBytes := by simpa [Fit, DataW.weights] using hf
  have : reachBytes = 140737488351232 := rfl
  have e3 : s'.size = s'.data.toList.length := rfl
  omega
end

/-- A world that meets the list: the type's handle set by hand, the others laid. -/
noncomputable def scrW0 (os : Os) : World := (World.holding Tryz.prog os ⟨#[], #[], []⟩).setCell ⟨0, 0, none⟩ (rtV 63)
noncomputable def scrW (os : Os) : World := (scrW0 os).layVars Tryz.prog scrN
theorem scrW_os (os : Os) : (scrW os).os = os := World.layVars_os _ _ _
theorem scrW_met (os : Os) : laidMetH Tryz.prog scrL (scrW os) := by
  have e1 : (scrN.filter fun x => (scrN.map (·.1)).contains x.1) = scrN := List.filter_eq_self.2 fun x hx => List.contains_iff_mem.2 (List.mem_map.2 ⟨x, hx, rfl⟩)
  have e2 : (scrN.filter fun x => !(scrN.map (·.1)).contains x.1) = [] := List.filter_eq_nil_iff.2 fun x hx => by rw [List.contains_iff_mem.2 (List.mem_map.2 ⟨x, hx, rfl⟩)]; simp
  have h : laidMet Tryz.prog scrN (scrW os) := laidMet_layVars (w0 := scrW0 os) (scrN.map (·.1)) [] (by rw [e1]; rfl) (by rw [e1]; kernel_rfl) (by rw [e1]; kernel_rfl) (by rw [e2]; exact LaidIn.none)
  have h2 : handlesMet Tryz.prog [("errors.errorType", Rows.laid_errors_errorType)] (scrW os) := handlesMet_of_B (by kernel_rfl)
  exact ⟨h, h2⟩
theorem scr_met (os : Os) (args : Array Value) : laidMetH Tryz.prog scrL ((scrW os).forCall (fun _ _ => 0) ⟨#[], args, []⟩).memory :=
  laidMetH.of_heap (by simp [World.memory, World.forCall, Input.heap]) (scrW_met os)

end Go.Proofs.YtalkllfgedacoaaGreatDoor
