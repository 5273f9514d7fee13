/- slices.Index, slices.Contains over ints. -/
import Derived.Test.YtmllbailfbjoeaaDoorGen
namespace Go.Proofs.YtmllbailfbjoeaaDoor
open Go.RowKit Go.Sort

set_option maxHeartbeats 400000 in
set_option maxRecDepth 100000 in
theorem IndexI_any (A : Option Addr) (c : Nat) (l : List Int) (v : Int) (w : World) (hl : l.length ≤ maxLen) (hR : Rd w A (ints l)) :
    Calls Tryd.prog 83 #[.slice A l.length c, .int .i64 v] w fun e w' => e = .returned (.int .i64 (firstV (fun x => v == x) l 0)) ∧ w = w' := by
  unfold maxLen at hl
  have HR := Lib.hid hR
  clear hR
  generalize hn : l.length = n at hl ⊢
  have HN := Lib.hid hn
  clear hn
  go_enter Tryd.func83, Tryd.ntmps83
  go_wp2
  go_loop [8] (fun i => ∃ k : Nat, k ≤ n ∧ i = .int .i64 k ∧ ∀ j, j < k → (v == l.getD j 0) = false) (fun i => n - (intOf i).toNat)
  case atStart => exact ⟨0, Nat.zero_le _, rfl, fun j hj => absurd hj (by omega)⟩
  case round =>
    obtain ⟨k, hk, rfl, hno⟩ := hrel
    have HNO := Lib.hid hno
    clear hno
    by_cases hlt : k < n
    · have hkl : k < l.length := by rw [HN.out]; exact hlt
      obtain ⟨b, o, rfl, hbl, hc⟩ := HR.out.at_ (by rw [ints_length]; omega)
      have hcell := hc k _ (ints_at hkl)
      clear hc hkl
      generalize hx : l.getD k 0 = x at hcell
      have HX := Lib.hid hx
      clear hx
      cases hpx : (v == x)
      · go_wp2
        go_round
        case rel =>
          refine ⟨k + 1, by omega, by go_num, fun j hj => ?_⟩
          by_cases hjk : j = k
          · subst hjk; rw [HX.out]; exact hpx
          · exact HNO.out j (by omega)
        case measure => simp [intOf]; omega
      · go_wp2
        go_ret
        exact ⟨ret_int (by rw [firstV_hit 0 l 0 k (by rw [HN.out]; exact hlt) HNO.out (by rw [HX.out]; exact hpx)]; simp), rfl⟩
    · go_wp2
      go_ret
      refine ⟨ret_int ?_, rfl⟩
      rw [firstV_none l 0 (fun x hx => ?_)]
      obtain ⟨j, hj, rfl⟩ := List.getElem_of_mem hx
      have := HNO.out j (by have := HN.out; omega)
      simpa [List.getD, hj] using this

theorem any_contains (l : List Int) (v : Int) : l.any (fun x => v == x) = l.contains v := by
  induction l with
  | nil => rfl
  | cons x r ih => simp only [List.any_cons, List.contains_cons, ih]

set_option maxHeartbeats 400000 in
theorem HasI_any (A : Option Addr) (c : Nat) (l : List Int) (v : Int) (w : World) (hl : l.length ≤ maxLen) (hR : Rd w A (ints l)) :
    Calls Tryd.prog 62 #[.slice A l.length c, .int .i64 v] w fun e w' => e = .returned (.bool (l.contains v)) ∧ w = w' := by
  have HI := Lib.hid (IndexI_any A c l v w hl hR)
  have HL := Lib.hid (firstV_lo (p := fun x => v == x) l 0)
  clear hR hl
  generalize l.length = n at *
  by_cases h : 0 ≤ firstV (fun x => v == x) l 0
  all_goals
    go_enter Tryd.func62, Tryd.ntmps62
    go_wp2_with (first | (refine HI.out.mono ?_; rintro e w1 ⟨rfl, rfl⟩))
    go_ret
    refine ⟨ret_bool ?_, rfl⟩
    have e := HL.out.2
    rw [any_contains] at e
    first | exact (e.1 h).symm | (rw [Bool.eq_iff_iff, decide_eq_true_iff]; exact e) | (rw [eq_comm, Bool.eq_false_iff]; exact fun h' => h (e.2 h'))

end Go.Proofs.YtmllbailfbjoeaaDoor
