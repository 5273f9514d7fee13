/- Rows of integers held against each other, element by element. -/
import Derived.Test.YtknlhkkpheahlaaDoorEqP
namespace Go.Proofs.YtknlhkkpheahlaaDoor
open Go.RowKit Go.Sort

set_option maxHeartbeats 1000000 in
set_option maxRecDepth 100000 in
theorem Ints_any (A B : Option Addr) (c d : Nat) (l r : List Int) (w : World) (hl : l.length ≤ maxLen) (hr : r.length ≤ maxLen) (hA : Rd w A (ints l)) (hB : Rd w B (ints r)) :
    Calls Tryd.prog 67 #[.slice A l.length c, .slice B r.length d] w fun e w' => e = .returned (.bool (l == r)) ∧ Below w.heap.size w w' := by
  unfold maxLen at hl hr
  have HA := Lib.hid hA
  have HB := Lib.hid hB
  clear hA hB
  generalize hn : l.length = n at hl ⊢
  generalize hm : r.length = m at hr ⊢
  have HN := Lib.hid hn
  have HM := Lib.hid hm
  clear hn hm
  by_cases hnm : n = m
  · subst hnm
    go_enter Tryd.func67, Tryd.ntmps67
    go_wp2
    go_loopw [13] (fun i wr => ∃ k : Nat, k ≤ n ∧ i = .int .i64 k ∧ Below w.heap.size w wr ∧ l.take k = r.take k) (fun i _ => n - (intOf i).toNat)
    case atStart => exact ⟨0, Nat.zero_le _, rfl, Below.refl _ _, by simp⟩
    case round =>
      obtain ⟨k, hk, rfl, hb, ht⟩ := hrel
      have HBW := Lib.hid hb
      have HT := Lib.hid ht
      clear hb ht
      by_cases hlt : k < n
      · obtain ⟨a1, o1, rfl, hl1, hc1⟩ := HA.out.at_ (by rw [ints_length, HN.out]; omega)
        obtain ⟨a2, o2, rfl, hl2, hc2⟩ := HB.out.at_ (by rw [ints_length, HM.out]; omega)
        have x1 : wr.cell? ⟨a1, o1 + k, none⟩ = some (.int .i64 (l.getD k 0)) := by
          rw [HBW.out.cell (p := ⟨a1, o1 + k, none⟩) hl1]; exact hc1 k _ (ints_at (by rw [HN.out]; exact hlt))
        have x2 : wr.cell? ⟨a2, o2 + k, none⟩ = some (.int .i64 (r.getD k 0)) := by
          rw [HBW.out.cell (p := ⟨a2, o2 + k, none⟩) hl2]; exact hc2 k _ (ints_at (by rw [HM.out]; exact hlt))
        clear hc1 hc2
        have q1 : (0 : Int) ≤ (k : Int) := by omega
        have q2 : (k : Int) < (n : Int) := by omega
        generalize hx : l.getD k 0 = x at x1
        generalize hy : r.getD k 0 = y at x2
        have HX := Lib.hid hx
        have HY := Lib.hid hy
        clear hx hy
        by_cases hxy : x = y
        · subst hxy
          go_wp2
          go_quiet (fail)
          go_wp2
          refine ⟨⟨k + 1, by omega, by go_num, Below.drewN' HBW.out nq, ?_⟩, by simp [intOf]; omega⟩
          exact take_snoc_eq l r 0 k (by rw [HN.out]; exact hlt) (by rw [HM.out]; exact hlt) HT.out (by rw [HX.out, HY.out])
        · have hne : (x != y) = true := by simp [hxy]
          have HXY := Lib.hid hxy
          clear hxy
          go_wp2
          go_quiet (fail)
          go_wp2
          go_ret
          exact ⟨ret_bool (ne_of_getD l r 0 k (by rw [HX.out, HY.out]; exact HXY.out)).symm, Below.drewN' HBW.out nq⟩
      · go_wp2
        go_ret
        obtain rfl : k = n := by omega
        exact ⟨ret_bool (eq_of_take l r k HN.out HM.out HT.out).symm, HBW.out⟩
  · have h1 : ((n : Int) != (m : Int)) = true := by rw [bne_iff_ne]; omega
    have HNM := Lib.hid hnm
    clear hnm
    go_enter Tryd.func67, Tryd.ntmps67
    go_wp2
    go_ret
    exact ⟨ret_bool (ne_of_length l r (by rw [HN.out, HM.out]; exact HNM.out)).symm, Below.refl _ _⟩

end Go.Proofs.YtknlhkkpheahlaaDoor
