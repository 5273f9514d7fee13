/- The law FaultNumbers, walked. -/
import Derived.Test.YtiioedgdhkndgaaDoorLaw04b
namespace Go.Proofs.YtiioedgdhkndgaaDoor
open Go.RowKit Go.Sort Go.Extern.Stop Go.Stop Go.Extern

set_option maxHeartbeats 1000000 in
theorem FIs_nil (c : Int) (w : World) : Calls Tryd.prog 11 #[.nilIface, .int .i64 c] w fun er w' => er = .returned (.bool false) ∧ w = w' := by
  go_enter Tryd.func11, Tryd.ntmps11
  go_wp2
  go_ret
  exact ⟨rfl, rfl⟩

set_option maxHeartbeats 8000000 in
set_option maxRecDepth 100000 in
theorem LawFN_none (A : Option Addr) (c : Nat) (l : List (ByteArray × Int)) (e o : Int) (w : World) (hl : l.length = 0 ∨ 60 < l.length ∨ e = 0) (hlm : l.length ≤ maxLen) (ht : TabT w) (het : EtT w) :
    Calls Tryd.prog 3 #[.slice A l.length c, .int .i64 e, .int .i64 o] w fun er w' => er = .returned (.bool true) ∧ Below w.heap.size w w' := by
  unfold maxLen at hlm
  have HT := Lib.hid ht
  have HE := Lib.hid het
  generalize l.length = n at *
  clear ht het
  have hl' : n = 0 ∨ (n ≠ 0 ∧ 60 < n) ∨ (n ≠ 0 ∧ ¬ 60 < n ∧ e = 0) := by omega
  clear hl
  rcases hl' with rfl | ⟨h0, h1⟩ | ⟨h0, h1, rfl⟩
  case' inr.inl =>
    have t0 : ((n : Int) == 0) = false := beq_eq_false_iff_ne.2 (by omega)
    have t1 : (60 : Int) < (n : Int) := by omega
  case' inr.inr =>
    have t0 : ((n : Int) == 0) = false := beq_eq_false_iff_ne.2 (by omega)
    have t1 : ¬ (60 : Int) < (n : Int) := by omega
  all_goals
    go_enter Tryd.func3, Tryd.ntmps3
    go_wp2_with (first | (go_at_call 11; refine (FIs_nil _ _).mono ?_; rintro er w2 ⟨rfl, rfl⟩) | (go_at_call 12; refine (Code_nil _).mono ?_; rintro er w3 ⟨rfl, hb⟩; have HA := Lib.hid (awake04_any w3 (HT.out.below hb) (HE.out.below hb)); have HB := Lib.hid hb; clear hb) | (go_at_call 13; refine HA.out.mono ?_; rintro er w4 ⟨rfl, hb4⟩))
    go_ret
    exact ⟨rfl, HB.out.trans (hb4.mono HB.out.size)⟩

set_option maxHeartbeats 8000000 in
set_option maxRecDepth 100000 in
theorem LawFN_main (A : Option Addr) (c : Nat) (l : List (ByteArray × Int)) (e o : Int) (w : World) (hR : Rd w A (rows l)) (hl1 : 0 < l.length) (hl2 : l.length ≤ 60) (hez : e ≠ 0) (ht : TabT w) (het : EtT w) :
    Calls Tryd.prog 3 #[.slice A l.length c, .int .i64 e, .int .i64 o] w fun er w' => er = .returned (.bool true) ∧ Below w.heap.size w w' := by
  have hne : l ≠ [] := by intro h; rw [h] at hl1; simp at hl1
  have HM := Lib.hid (made_any A c l e w hR hne (by unfold maxLen; omega))
  have HT := Lib.hid ht
  have HE := Lib.hid het
  have HEZ := Lib.hid hez
  have b1 : (e == 0) = false := by simpa using hez
  have t0 : ((l.length : Int) == 0) = false := beq_eq_false_iff_ne.2 (by omega)
  have t1 : ¬ (60 : Int) < (l.length : Int) := by omega
  clear hR hne hez ht het
  generalize l.length = n at *
  have bo : (decide (e = o) == (e == o)) = true := by
    by_cases h : e = o
    · simp [h]
    · simp [h]
  go_enter Tryd.func3, Tryd.ntmps3
  go_wp2_with fail
  refine HM.out.mono ?_
  rintro er w2 ⟨y, rfl, hy, hb2⟩
  have hc2 : Chain w.heap.size w2 y l e := by unfold MadeV at hy; rw [if_neg HEZ.out] at hy; exact hy
  have HB2 := Lib.hid hb2
  have HC2 := Lib.hid hc2
  have HI1 := Lib.hid (FIs_any _ _ _ _ e w2 hc2)
  rw [show decide (e = e) = true from decide_eq_true rfl] at HI1
  have HI2 := Lib.hid (FIs_any _ _ _ _ o w2 hc2)
  generalize decide (e = o) = d at *
  have HA := Lib.hid (awake04_any w2 (HT.out.below hb2) (HE.out.below hb2))
  obtain ⟨ti, ui, rfl⟩ := hc2.iface
  clear hy hb2 hc2 HM HT HE
  go_wp2_with fail
  refine HI1.out.mono ?_
  rintro er w3 ⟨rfl, rfl⟩
  go_wp2_with fail
  refine HI2.out.mono ?_
  rintro er w4 ⟨rfl, rfl⟩
  go_wp2_with fail
  refine HA.out.mono ?_
  rintro er w5 ⟨rfl, hb5⟩
  go_wp2
  go_ret
  exact ⟨rfl, HB2.out.trans (hb5.mono HB2.out.size)⟩

theorem LawFN_any (A : Option Addr) (c : Nat) (l : List (ByteArray × Int)) (e o : Int) (w : World) (hR : Rd w A (rows l)) (hl : l.length ≤ maxLen) (ht : TabT w) (het : EtT w) :
    Calls Tryd.prog 3 #[.slice A l.length c, .int .i64 e, .int .i64 o] w fun er w' => er = .returned (.bool true) ∧ Below w.heap.size w w' := by
  by_cases h : l.length = 0 ∨ 60 < l.length ∨ e = 0
  · exact LawFN_none A c l e o w h hl ht het
  · exact LawFN_main A c l e o w hR (by omega) (by omega) (by omega) ht het

end Go.Proofs.YtiioedgdhkndgaaDoor
