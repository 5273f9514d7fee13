/- errors.as, errors.As over faults around a number, walked. -/
import Derived.Test.YtknlhkkpheahlaaDoorE3
namespace Go.Proofs.YtknlhkkpheahlaaDoor
open Go.RowKit Go.Sort Go.Extern.Stop Go.Stop Go.Extern

/-- The target's Value, of a pointer that is kept at a. -/
abbrev tvV (PT : TypeId) (a : Addr) : Value := .agg #[.pointer (some ⟨14, PT, none⟩), .pointer (some a), .int .u64 150]

def AsSet (t : Addr) (x : Value) (w : World) (e : Ending) (w' : World) : Prop := e = .returned (.bool true) ∧ ∃ W1, Below w.heap.size w W1 ∧ w' = W1.setCell t x

theorem cell_lt {w : World} {t : Addr} {v : Value} (h : w.cell? t = some v) : t.block < w.heap.size := by
  rcases Nat.lt_or_ge t.block w.heap.size with h' | h'
  · exact h'
  · simp [World.cell?, Array.getElem?_eq_none h'] at h

set_option maxHeartbeats 4000000 in
set_option maxRecDepth 100000 in
theorem asF_hit (g : Nat) (a t : Addr) (old : Value) (w : World) (ha : w.cell? a = some (.pointer (some t))) (ht : w.cell? t = some old) (hf : w.frozen? t = false) :
    Calls Tryd.prog 76 #[faultV g, .iface 77 (.pointer (some t)), tvV 77 a, rtV 75] w (AsSet t (.pointer (some ⟨g, 0, none⟩)) w) := by
  have hal := cell_lt ha
  have htl := cell_lt ht
  have xO := @run_callFunc_extern Tryd.prog 96 _ (ReflectliteType.typeOf) Tryd.func96 (by kernel_rfl) (by kernel_rfl) (by kernel_rfl) (by kernel_rfl)
  have xA := @run_callFunc_extern Tryd.prog 178 _ (ReflectliteType.relation "AssignableTo" ReflectliteType.assignableTo) Tryd.func178 (by kernel_rfl) (by kernel_rfl) (by kernel_rfl) (by kernel_rfl)
  have xL := @run_callFunc_extern Tryd.prog 98 _ (ReflectliteValue.method (ReflectliteValue.valueError "reflectlite.Value.Elem" 0) ReflectliteValue.elem) Tryd.func98 (by kernel_rfl) (by kernel_rfl) (by kernel_rfl) (by kernel_rfl)
  have xV := @run_callFunc_extern Tryd.prog 73 _ (fun args => ReflectliteValue.unpack (args.getD 0 (.tuple #[]))) Tryd.func73 (by kernel_rfl) (by kernel_rfl) (by kernel_rfl) (by kernel_rfl)
  have xS := @run_callFunc_extern Tryd.prog 99 _ (ReflectliteValue.set) Tryd.func99 (by kernel_rfl) (by kernel_rfl) (by kernel_rfl) (by kernel_rfl)
  have tO := typeOfF
  have mA := methodAssignable
  have aF := asgFF
  have vF := valueOfF
  have el := tF_elemV a t (w.alloc (.cells #[.pointer (some ⟨14, 77, none⟩), .pointer (some a), .int .u64 150] 114)) (by rw [World.cell?_alloc_lt _ _ a hal]; exact ha)
  have st := setF t ⟨w.heap.size + 1, 0, none⟩ ⟨g, 0, none⟩ old ((w.alloc (.cells #[.pointer (some ⟨14, 77, none⟩), .pointer (some a), .int .u64 150] 114)).alloc (.cells #[.pointer (some ⟨g, 0, none⟩)] 75))
    (by rw [World.cell?_alloc_at _ _ _ _ (by simp)]; rfl)
    (by rw [World.cell?_alloc_lt _ _ t (by simp; omega), World.cell?_alloc_lt _ _ t htl]; exact ht)
    (by rw [World.frozen?_alloc_old _ _ t (by simp; omega), World.frozen?_alloc_old _ _ t (Nat.ne_of_lt htl)]; exact hf)
  have hb := Lib.hid (((Below.refl w.heap.size w).alloc (Nat.le_refl _) (.cells #[.pointer (some ⟨14, 77, none⟩), .pointer (some a), .int .u64 150] 114)).alloc (by simp) (.cells #[.pointer (some ⟨g, 0, none⟩)] 75))
  go_enter Tryd.func76, Tryd.ntmps76
  go_wp2
  refine wp_loop_rounds 1 ?_
  rw [rounds_succ]
  go_wp2
  go_ret
  exact ⟨rfl, _, hb.out, rfl⟩

set_option maxHeartbeats 4000000 in
set_option maxRecDepth 100000 in
theorem asF_miss (e : Int) (a t : Addr) (w : World) :
    Calls Tryd.prog 76 #[errnoV e, .iface 77 (.pointer (some t)), tvV 77 a, rtV 75] w fun er w' => er = .returned (.bool false) ∧ Below w.heap.size w w' := by
  have xO := @run_callFunc_extern Tryd.prog 96 _ (ReflectliteType.typeOf) Tryd.func96 (by kernel_rfl) (by kernel_rfl) (by kernel_rfl) (by kernel_rfl)
  have xA := @run_callFunc_extern Tryd.prog 178 _ (ReflectliteType.relation "AssignableTo" ReflectliteType.assignableTo) Tryd.func178 (by kernel_rfl) (by kernel_rfl) (by kernel_rfl) (by kernel_rfl)
  have tO := typeOfE
  have mA := methodAssignable
  have aF := asgEF
  have nA := noAsE
  have uE := noUnwrapE
  have vE := noUnwrapsE
  go_enter Tryd.func76, Tryd.ntmps76
  go_wp2
  refine wp_loop_rounds 1 ?_
  rw [rounds_succ]
  go_wp2
  go_ret
  exact ⟨rfl, (Below.refl _ _).alloc (Nat.le_refl _) _⟩

set_option maxHeartbeats 8000000 in
set_option maxRecDepth 100000 in
theorem asE_any (B : Nat) (v : Value) (l : List (ByteArray × Int)) (e : Int) (a t : Addr) (old : Value) (w : World) (h : Chain B w v l e) (ha : w.cell? a = some (.pointer (some t))) (ht : w.cell? t = some old) (hf : w.frozen? t = false) :
    Calls Tryd.prog 76 #[v, .iface 80 (.pointer (some t)), tvV 80 a, rtV 25] w (AsSet t (.int .i64 e) w) := by
  have hal := cell_lt ha
  have htl := cell_lt ht
  have hc0 := h.below ((Below.refl w.heap.size w).alloc (Nat.le_refl _) (.cells #[.pointer (some ⟨14, 80, none⟩), .pointer (some a), .int .u64 150] 114))
  have HC := Lib.hid hc0
  have hb := Lib.hid (((Below.refl w.heap.size w).alloc (Nat.le_refl _) (.cells #[.pointer (some ⟨14, 80, none⟩), .pointer (some a), .int .u64 150] 114)).alloc (by simp) (.cells #[.int .i64 e] 25))
  have xO := @run_callFunc_extern Tryd.prog 96 _ (ReflectliteType.typeOf) Tryd.func96 (by kernel_rfl) (by kernel_rfl) (by kernel_rfl) (by kernel_rfl)
  have xA := @run_callFunc_extern Tryd.prog 178 _ (ReflectliteType.relation "AssignableTo" ReflectliteType.assignableTo) Tryd.func178 (by kernel_rfl) (by kernel_rfl) (by kernel_rfl) (by kernel_rfl)
  have xL := @run_callFunc_extern Tryd.prog 98 _ (ReflectliteValue.method (ReflectliteValue.valueError "reflectlite.Value.Elem" 0) ReflectliteValue.elem) Tryd.func98 (by kernel_rfl) (by kernel_rfl) (by kernel_rfl) (by kernel_rfl)
  have xV := @run_callFunc_extern Tryd.prog 73 _ (fun args => ReflectliteValue.unpack (args.getD 0 (.tuple #[]))) Tryd.func73 (by kernel_rfl) (by kernel_rfl) (by kernel_rfl) (by kernel_rfl)
  have xS := @run_callFunc_extern Tryd.prog 99 _ (ReflectliteValue.set) Tryd.func99 (by kernel_rfl) (by kernel_rfl) (by kernel_rfl) (by kernel_rfl)
  have tOF := typeOfF
  have tOE := typeOfE
  have mA := methodAssignable
  have aE := asgEE
  have aF := asgFE
  have vE := valueOfE
  have nF := noAsF
  have uF := hasUnwrapF
  have mU := mUnwrap
  have el := tE_elemV a t (w.alloc (.cells #[.pointer (some ⟨14, 80, none⟩), .pointer (some a), .int .u64 150] 114)) (by rw [World.cell?_alloc_lt _ _ a hal]; exact ha)
  have st := setE t ⟨w.heap.size + 1, 0, none⟩ e old ((w.alloc (.cells #[.pointer (some ⟨14, 80, none⟩), .pointer (some a), .int .u64 150] 114)).alloc (.cells #[.int .i64 e] 25))
    (by rw [World.cell?_alloc_at _ _ _ _ (by simp)]; rfl)
    (by rw [World.cell?_alloc_lt _ _ t (by simp; omega), World.cell?_alloc_lt _ _ t htl]; exact ht)
    (by rw [World.frozen?_alloc_old _ _ t (by simp; omega), World.frozen?_alloc_old _ _ t (Nat.ne_of_lt htl)]; exact hf)
  clear h hc0
  go_enter Tryd.func76, Tryd.ntmps76
  go_wp2
  go_loopg [0] (l.length + 1) (fun gg x wr => ∃ r y, gg = r.length + 1 ∧ x = y ∧ wr = w.alloc (.cells #[.pointer (some ⟨14, 80, none⟩), .pointer (some a), .int .u64 150] 114) ∧ Chain B (w.alloc (.cells #[.pointer (some ⟨14, 80, none⟩), .pointer (some a), .int .u64 150] 114)) y r e)
  case atStart => exact ⟨l, v, rfl, rfl, rfl, HC.out⟩
  case round =>
    obtain ⟨r, y, hg, hy, rfl, hc⟩ := hrel
    have HG := Lib.hid hg
    clear hg
    cases r with
    | nil =>
      rw [show y = errnoV e from hc] at hy
      subst hy
      clear HC hc
      go_wp2
      go_ret
      exact ⟨rfl, _, hb.out, rfl⟩
    | cons x r =>
      obtain ⟨s, p⟩ := x
      obtain ⟨g, v', hv, _, hbk, hc⟩ := hc
      rw [hv] at hy
      subst hy hv
      have HB := Lib.hid hbk
      have HC' := Lib.hid hc
      clear hbk hc HC st el
      go_wp2_with fail
      refine (Unwrap_any g s p v' _ HB.out).mono ?_
      rintro er w2 ⟨rfl, rfl⟩
      obtain ⟨ti, ui, rfl⟩ := HC'.out.iface
      go_wp2
      go_roundg (r.length + 1)
      case measure => rw [HG.out]; simp
      case rel => exact ⟨r, _, rfl, rfl, rfl, HC'.out⟩

end Go.Proofs.YtknlhkkpheahlaaDoor
