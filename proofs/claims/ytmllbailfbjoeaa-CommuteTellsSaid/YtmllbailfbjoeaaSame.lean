/- commute.Same: two rows of accesses have one order. -/
import Derived.Test.YtmllbailfbjoeaaPlain28d
import Derived.Test.YtmllbailfbjoeaaEq
namespace Go.Proofs.Ytmllbailfbjoeaa
open Go.RowKit Go.Sort

set_option maxHeartbeats 1000000 in
set_option maxRecDepth 100000 in
theorem EqualA_any (A B : Option Addr) (c d : Nat) (l r : List Acc) (w : World) (hl : l.length ≤ maxLen) (hr : r.length ≤ maxLen) (hA : Rd w A (accs l)) (hB : Rd w B (accs r)) :
    Calls Try.prog 96 #[.slice A l.length c, .slice B r.length d] w fun e w' => e = .returned (.bool (l == r)) ∧ Below w.heap.size w w' := by
  unfold maxLen at hl hr
  have HA := Lib.hid hA
  have HB := Lib.hid hB
  clear hA hB
  generalize hn : l.length = n at hl ⊢
  generalize hm : r.length = m at hr ⊢
  have HN := Lib.hid hn
  have HM := Lib.hid hm
  clear hn hm
  by_cases hnm : n = m
  · subst hnm
    go_enter Try.func96, Try.ntmps96
    go_wp2
    go_loopw [13] (fun i wr => ∃ k : Nat, k ≤ n ∧ i = .int .i64 k ∧ Below w.heap.size w wr ∧ l.take k = r.take k) (fun i _ => n - (intOf i).toNat)
    case atStart => exact ⟨0, Nat.zero_le _, rfl, Below.refl _ _, by simp⟩
    case round =>
      obtain ⟨k, hk, rfl, hb, ht⟩ := hrel
      have HBW := Lib.hid hb
      have HT := Lib.hid ht
      clear hb ht
      by_cases hlt : k < n
      · obtain ⟨a1, o1, rfl, hl1, hc1⟩ := HA.out.at_ (by rw [accs_length, HN.out]; omega)
        obtain ⟨a2, o2, rfl, hl2, hc2⟩ := HB.out.at_ (by rw [accs_length, HM.out]; omega)
        have z1 : ∀ j v, (accs l)[j]? = some v → wr.cell? ⟨a1, o1 + j, none⟩ = some v := fun j v hj => by
          rw [HBW.out.cell (p := ⟨a1, o1 + j, none⟩) hl1]; exact hc1 j v hj
        have z2 : ∀ j v, (accs r)[j]? = some v → wr.cell? ⟨a2, o2 + j, none⟩ = some v := fun j v hj => by
          rw [HBW.out.cell (p := ⟨a2, o2 + j, none⟩) hl2]; exact hc2 j v hj
        clear hc1 hc2
        have q1 : (0 : Int) ≤ (k : Int) := by omega
        have q2 : (k : Int) < (n : Int) := by omega
        generalize hx : l.getD k Acc.none = x
        generalize hy : r.getD k Acc.none = y
        obtain ⟨c0, c1, c2, c3, c4, c5, c6⟩ := acc_cells z1 (by rw [HN.out]; exact hlt) hx
        obtain ⟨d0, d1, d2, d3, d4, d5, d6⟩ := acc_cells z2 (by rw [HM.out]; exact hlt) hy
        clear z1 z2
        have HX := Lib.hid hx
        have HY := Lib.hid hy
        clear hx hy
        by_cases hxy : x = y
        · subst hxy
          have hee := neq_acc_same x
          go_wp2
          go_quiet (fail)
          go_wp2
          refine ⟨⟨k + 1, by omega, by go_num, Below.drewN' HBW.out nq, ?_⟩, by simp [intOf]; omega⟩
          exact take_snoc_eq l r Acc.none k (by rw [HN.out]; exact hlt) (by rw [HM.out]; exact hlt) HT.out (by rw [HX.out, HY.out])
        · have hne := neq_acc x y hxy
          have HXY := Lib.hid hxy
          clear hxy
          go_wp2
          go_quiet (fail)
          go_wp2
          go_ret
          exact ⟨ret_bool (ne_of_getD l r Acc.none k (by rw [HX.out, HY.out]; exact HXY.out)).symm, Below.drewN' HBW.out nq⟩
      · go_wp2
        go_ret
        obtain rfl : k = n := by omega
        exact ⟨ret_bool (eq_of_take l r k HN.out HM.out HT.out).symm, HBW.out⟩
  · have h1 : ((n : Int) != (m : Int)) = true := by rw [bne_iff_ne]; omega
    have HNM := Lib.hid hnm
    clear hnm
    go_enter Try.func96, Try.ntmps96
    go_wp2
    go_ret
    exact ⟨ret_bool (ne_of_length l r (by rw [HN.out, HM.out]; exact HNM.out)).symm, Below.refl _ _⟩

/-- Whether the orders of two rows are one. -/
def RetSame (l r : List Acc) (w : World) (e : Ending) (w' : World) : Prop :=
  ∃ os os' : List Int, IsOrder l os ∧ IsOrder r os' ∧ e = .returned (.bool (os.map (at_ l) == os'.map (at_ r))) ∧ Below w.heap.size w w'

theorem at_map' (l : List Acc) (os : List Int) : (os.map fun i => l.getD i.toNat Acc.none) = os.map (at_ l) := rfl

set_option maxHeartbeats 4000000 in
set_option maxRecDepth 100000 in
theorem Same_any (A B : Option Addr) (c d : Nat) (l r : List Acc) (w : World) (hl : l.length ≤ 1048576) (hr : r.length ≤ 1048576) (hlc : l.length ≤ c) (hrd : r.length ≤ d) (hA : Rd w A (accs l)) (hB : Rd w B (accs r)) :
    Calls Try.prog 57 #[.slice A l.length c, .slice B r.length d] w (RetSame l r w) := by
  have HA := Lib.hid hA
  have HB := Lib.hid hB
  have HN1 := Lib.hid (fun W h => Normal_any A c l W hl hlc h)
  have HN2 := Lib.hid (fun W h => Normal_any B d r W hr hrd h)
  clear hA hB
  generalize hn : l.length = n at *
  generalize hm : r.length = m at *
  have HN := Lib.hid hn
  have HM := Lib.hid hm
  clear hn hm
  go_enter Try.func57, Try.ntmps57
  go_wp2_with fail
  refine (HN1.out _ HA.out).mono ?_
  rintro er w1 ⟨os, hp, hr', A1, c1, rfl, hrd1, hlc1, hb1⟩
  have HO := Lib.hid (show IsOrder l os from ⟨hp, hr'⟩)
  rw [at_map'] at hrd1 hlc1 ⊢
  have hlen : (os.map (at_ l)).length = n := by rw [List.length_map, HO.out.len, HN.out]
  rw [hlen] at hlc1 ⊢
  have HL := Lib.hid hlen
  have HRD := Lib.hid hrd1
  have HB1 := Lib.hid hb1
  clear hp hr' hlen hrd1 hb1
  go_wp2_with fail
  refine (HN2.out _ (HB.out.below HB1.out)).mono ?_
  rintro er w2 ⟨os', hp, hr', A2, c2, rfl, hrd2, hlc2, hb2⟩
  have HO' := Lib.hid (show IsOrder r os' from ⟨hp, hr'⟩)
  rw [at_map'] at hrd2 hlc2 ⊢
  have hlen' : (os'.map (at_ r)).length = m := by rw [List.length_map, HO'.out.len, HM.out]
  rw [hlen'] at hlc2 ⊢
  have HL' := Lib.hid hlen'
  have HRD' := Lib.hid hrd2
  replace HRD := Lib.hid (HRD.out.below hb2)
  have HB2 := Lib.hid (HB1.out.trans (hb2.mono HB1.out.size))
  clear hp hr' hlen' hrd2 hb2
  have HEQ := Lib.hid (fun W h1 h2 => EqualA_any A1 A2 c1 c2 (os.map (at_ l)) (os'.map (at_ r)) W (by rw [HL.out]; unfold maxLen; omega) (by rw [HL'.out]; unfold maxLen; omega) h1 h2)
  rw [HL.out, HL'.out] at HEQ
  go_wp2_with fail
  refine (HEQ.out _ HRD.out HRD'.out).mono ?_
  rintro er w3 ⟨rfl, hb3⟩
  have HB3 := Lib.hid (HB2.out.trans (hb3.mono HB2.out.size))
  clear hb3
  go_wp2
  go_ret
  exact ⟨os, os', HO.out, HO'.out, rfl, HB3.out⟩

end Go.Proofs.Ytmllbailfbjoeaa
