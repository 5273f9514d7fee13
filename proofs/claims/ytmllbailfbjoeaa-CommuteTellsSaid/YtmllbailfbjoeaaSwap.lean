/- commute.Swapped: two neighbours have changed places, if they may. -/
import Derived.Test.YtmllbailfbjoeaaSwapL
import Derived.BigRegion
namespace Go.Proofs.Ytmllbailfbjoeaa
open Go.RowKit Go.Sort

def mayB (l : List Acc) (i : Int) : Bool := decide (0 ≤ i) && decide (i < (l.length : Int) - 1) && freeB (l.getD i.toNat Acc.none) (l.getD (i.toNat + 1) Acc.none)
def swapS (l : List Acc) (i : Nat) : List Acc := (l.set i (l.getD (i + 1) Acc.none)).set (i + 1) (l.getD i Acc.none)

theorem accs_one (l : List Acc) : ∀ u ∈ accs l, u.oneCell' = true := by
  intro u hu
  simp only [accs, List.mem_flatMap, Acc.cells] at hu
  obtain ⟨x, _, hx⟩ := hu
  simp only [List.mem_cons, List.not_mem_nil, or_false] at hx
  rcases hx with rfl | rfl | rfl | rfl | rfl | rfl | rfl <;> rfl

/-- Accesses in a row that the caller owns, and whether. -/
def RetSwap (l : List Acc) (ok : Bool) (w : World) (e : Ending) (w' : World) : Prop :=
  ∃ A c, e = .returned (.tuple #[.slice A l.length c, .bool ok]) ∧ Rd w' A (accs l) ∧ l.length ≤ c ∧ Below w.heap.size w w'

set_option maxHeartbeats 4000000 in
set_option maxRecDepth 100000 in
theorem Swapped_any (A : Option Addr) (c : Nat) (l : List Acc) (i : Int) (w : World) (hl : l.length ≤ 1048576) (hi1 : -9223372036854775808 ≤ i) (hi2 : i ≤ 9223372036854775807) (hR : Rd w A (accs l)) :
    Calls Try.prog 45 #[.slice A l.length c, .int .i64 i] w (RetSwap (if mayB l i = true then swapS l i.toNat else l) (mayB l i) w) := by
  have HR := Lib.hid hR
  clear hR
  generalize hn : l.length = n at hl ⊢
  have HN := Lib.hid hn
  clear hn
  by_cases h0 : i < 0
  · have hm : mayB l i = false := by unfold mayB; grind
    rw [hm]
    have HM := Lib.hid hm
    clear hm
    go_enter Try.func45, Try.ntmps45
    go_wp2_with fail
    refine (CloneA_any A n c (accs l) _ (by omega) (by rw [accs_length, HN.out]) (accs_one l) HR.out).mono ?_
    rintro e w1 ⟨A1, c1, rfl, hown, hb1⟩
    have HO := Lib.hid hown
    clear hown
    go_wp2
    refine wp_region_quiet_below (by kernel_rfl) (by kernel_rfl) ?_
    repeat (go_big_quiet_step (fail))
    refine wpQuiet_nil ?_
    intro _ hw'
    obtain ⟨⟨dq, osq⟩, hw''⟩ := hw'
    subst hw''
    go_wp2
    go_ret2
    unfold RetSwap
    simp only [HN.out]
    exact ⟨_, _, rfl, own_rd (own_below HO.out (below_regrown w1 dq osq)), own_cap HO.out, hb1.trans ((below_regrown w1 dq osq).mono hb1.size)⟩
  by_cases h1 : (n : Int) - 1 ≤ i
  · have hm : mayB l i = false := by unfold mayB; rw [HN.out]; grind
    rw [hm]
    have HM := Lib.hid hm
    clear hm
    go_enter Try.func45, Try.ntmps45
    go_wp2_with fail
    refine (CloneA_any A n c (accs l) _ (by omega) (by rw [accs_length, HN.out]) (accs_one l) HR.out).mono ?_
    rintro e w1 ⟨A1, c1, rfl, hown, hb1⟩
    have HO := Lib.hid hown
    clear hown
    have hw1 := IntWalk.i64_in ((n : Int) - 1) (by omega)
    have hd1 : decide ((n : Int) - 1 ≤ i) = true := by simpa using h1
    have hd0 : decide (i < 0) = false := by simpa using h0
    go_wp2
    refine wp_region_quiet_below (by kernel_rfl) (by kernel_rfl) ?_
    repeat (go_big_quiet_step (fail))
    refine wpQuiet_nil ?_
    intro _ hw'
    obtain ⟨⟨dq, osq⟩, hw''⟩ := hw'
    subst hw''
    go_wp2
    go_ret2
    unfold RetSwap
    simp only [HN.out]
    exact ⟨_, _, rfl, own_rd (own_below HO.out (below_regrown w1 dq osq)), own_cap HO.out, hb1.trans ((below_regrown w1 dq osq).mono hb1.size)⟩
  · obtain ⟨k, rfl⟩ : ∃ k : Nat, i = k := ⟨i.toNat, by omega⟩
    have hkn : k + 1 < n := by omega
    have hkl : k < l.length := by have := HN.out; omega
    have hkl2 : k + 1 < l.length := by have := HN.out; omega
    have hm : mayB l k = freeB (l.getD k Acc.none) (l.getD (k + 1) Acc.none) := by
      unfold mayB; rw [HN.out]
      have e1 : decide ((0 : Int) ≤ (k : Int)) = true := by simp
      have e2 : decide ((k : Int) < (n : Int) - 1) = true := by simp; omega
      rw [e1, e2]; simp
    rw [hm, Int.toNat_natCast]
    obtain ⟨b, o, rfl, hbl, hc⟩ := HR.out.at_ (by rw [accs_length]; omega)
    have HC := Lib.hid hc
    clear hc hm
    generalize hx : l.getD k Acc.none = x
    generalize hy : l.getD (k + 1) Acc.none = y
    have HX := Lib.hid hx
    have HY := Lib.hid hy
    have HK := Lib.hid (And.intro hkl hkl2)
    clear hx hy hkl hkl2
    have HF := Lib.hid (Free_any x y)
    cases hfr : freeB x y
    · rw [hfr] at HF
      clear hfr
      go_enter Try.func45, Try.ntmps45
      go_wp2_with fail
      refine (CloneA_any (some ⟨b, o, none⟩) n c (accs l) _ (by omega) (by rw [accs_length, HN.out]) (accs_one l) HR.out).mono ?_
      rintro e w1 ⟨A1, c1, rfl, hown, hb1⟩
      have HO := Lib.hid hown
      have hcr : ∀ k v, (accs l)[k]? = some v → w1.cell? ⟨b, o + k, none⟩ = some v := fun k v hk => by
        rw [hb1.cell (p := ⟨b, o + k, none⟩) hbl]; exact HC.out k v hk
      obtain ⟨c0, c1, c2, c3, c4, c5, c6⟩ := acc_cells hcr HK.out.1 HX.out
      obtain ⟨d0, d1, d2, d3, d4, d5, d6⟩ := acc_cells hcr HK.out.2 HY.out
      have HB1 := Lib.hid hb1
      clear hown hcr hb1
      have hw1 := IntWalk.i64_in ((n : Int) - 1) (by omega)
      have hw2 := IntWalk.i64_in ((k : Int) + 1) (by omega)
      have hd1 : decide ((n : Int) - 1 ≤ (k : Int)) = false := by simp; omega
      have hd0 : decide ((k : Int) < 0) = false := by simp
      have ht : ((k : Int) + 1).toNat = k + 1 := by omega
      have q1 : (0 : Int) ≤ (k : Int) := by omega
      have q2 : (k : Int) < (n : Int) := by omega
      have q3 : (0 : Int) ≤ (k : Int) + 1 := by omega
      have q4 : (k : Int) + 1 < (n : Int) := by omega
      have k0 := cell_regrown c0
      have j0 := cell_regrown d0
      have k1 := cell_regrown c1
      have j1 := cell_regrown d1
      have k2 := cell_regrown c2
      have j2 := cell_regrown d2
      have k3 := cell_regrown c3
      have j3 := cell_regrown d3
      have k4 := cell_regrown c4
      have j4 := cell_regrown d4
      have k5 := cell_regrown c5
      have j5 := cell_regrown d5
      have k6 := cell_regrown c6
      have j6 := cell_regrown d6
      clear c0 c1 c2 c3 c4 c5 c6 d0 d1 d2 d3 d4 d5 d6
      go_wp2
      refine wp_region_quiet_below (by kernel_rfl) (by kernel_rfl) ?_
      repeat (go_big_quiet_step ((go_at_call 47; exact Calls.regrown_of (HF.out _))))
      refine wpQuiet_nil ?_
      intro _ hw'
      obtain ⟨⟨dq, osq⟩, hw''⟩ := hw'
      subst hw''
      go_wp2
      go_ret2
      unfold RetSwap
      simp only [HN.out]
      exact ⟨_, _, rfl, own_rd (own_below HO.out (below_regrown w1 dq osq)), own_cap HO.out, HB1.out.trans ((below_regrown w1 dq osq).mono HB1.out.size)⟩
    · rw [hfr] at HF
      clear hfr
      go_enter Try.func45, Try.ntmps45
      go_wp2_with fail
      refine (CloneA_any (some ⟨b, o, none⟩) n c (accs l) _ (by omega) (by rw [accs_length, HN.out]) (accs_one l) HR.out).mono ?_
      rintro e w1 ⟨A1, c1, rfl, hown, hb1⟩
      have HO := Lib.hid hown
      have hcr : ∀ k v, (accs l)[k]? = some v → w1.cell? ⟨b, o + k, none⟩ = some v := fun k v hk => by
        rw [hb1.cell (p := ⟨b, o + k, none⟩) hbl]; exact HC.out k v hk
      obtain ⟨c0, c1, c2, c3, c4, c5, c6⟩ := acc_cells hcr HK.out.1 HX.out
      obtain ⟨d0, d1, d2, d3, d4, d5, d6⟩ := acc_cells hcr HK.out.2 HY.out
      have HB1 := Lib.hid hb1
      clear hown hcr hb1
      have hw1 := IntWalk.i64_in ((n : Int) - 1) (by omega)
      have hw2 := IntWalk.i64_in ((k : Int) + 1) (by omega)
      have hd1 : decide ((n : Int) - 1 ≤ (k : Int)) = false := by simp; omega
      have hd0 : decide ((k : Int) < 0) = false := by simp
      have ht : ((k : Int) + 1).toNat = k + 1 := by omega
      have q1 : (0 : Int) ≤ (k : Int) := by omega
      have q2 : (k : Int) < (n : Int) := by omega
      have q3 : (0 : Int) ≤ (k : Int) + 1 := by omega
      have q4 : (k : Int) + 1 < (n : Int) := by omega
      have k0 := cell_regrown c0
      have j0 := cell_regrown d0
      have k1 := cell_regrown c1
      have j1 := cell_regrown d1
      have k2 := cell_regrown c2
      have j2 := cell_regrown d2
      have k3 := cell_regrown c3
      have j3 := cell_regrown d3
      have k4 := cell_regrown c4
      have j4 := cell_regrown d4
      have k5 := cell_regrown c5
      have j5 := cell_regrown d5
      have k6 := cell_regrown c6
      have j6 := cell_regrown d6
      clear c0 c1 c2 c3 c4 c5 c6 d0 d1 d2 d3 d4 d5 d6
      go_wp2
      refine wp_region_quiet_below (by kernel_rfl) (by kernel_rfl) ?_
      repeat (go_big_quiet_step ((go_at_call 47; exact Calls.regrown_of (HF.out _))))
      refine wpQuiet_nil ?_
      intro _ hw'
      obtain ⟨⟨dq, osq⟩, hw''⟩ := hw'
      subst hw''
      go_wp2
      clear k0 k1 k2 k3 k4 k5 k6 j0 j1 j2 j3 j4 j5 j6
      replace HB1 := Lib.hid (HB1.out.trans ((below_regrown w1 dq osq).mono HB1.out.size))
      replace HO := Lib.hid (own_below HO.out (below_regrown w1 dq osq))
      generalize grow (redrawn w1 dq) osq = w2 at *
      obtain ⟨g, rfl, hbg, hgl, hfz, hset⟩ := own_form HO.out (by omega)
      have hrd := own_rd HO.out
      obtain ⟨g', o', hgo, _, hcc⟩ := hrd.at_ (by rw [accs_length, HN.out]; omega)
      injection hgo with hgo
      injection hgo with hg1 hg2
      subst hg1 hg2
      obtain ⟨c0, c1, c2, c3, c4, c5, c6⟩ := acc_cells hcc HK.out.1 HX.out
      obtain ⟨d0, d1, d2, d3, d4, d5, d6⟩ := acc_cells hcc HK.out.2 HY.out
      simp only [Nat.zero_add] at c0 c1 c2 c3 c4 c5 c6 d0 d1 d2 d3 d4 d5 d6
      have HSET := Lib.hid hset
      clear hrd hcc hset
      go_region
      have hBw : Below w.heap.size w ((((((((((((((w2.setCell ⟨g, k * 7, none⟩ (.int .i64 y.thread)).setCell ⟨g, k * 7 + 1, none⟩ (.int .i64 y.kind)).setCell ⟨g, k * 7 + 2, none⟩ (.int .i64 y.addr)).setCell ⟨g, k * 7 + 3, none⟩ (.int .u64 y.want)).setCell ⟨g, k * 7 + 4, none⟩ (.int .u64 y.old)).setCell ⟨g, k * 7 + 5, none⟩ (.int .u64 y.now)).setCell ⟨g, k * 7 + 6, none⟩ (.bool y.ok)).setCell ⟨g, (k + 1) * 7, none⟩ (.int .i64 x.thread)).setCell ⟨g, (k + 1) * 7 + 1, none⟩ (.int .i64 x.kind)).setCell ⟨g, (k + 1) * 7 + 2, none⟩ (.int .i64 x.addr)).setCell ⟨g, (k + 1) * 7 + 3, none⟩ (.int .u64 x.want)).setCell ⟨g, (k + 1) * 7 + 4, none⟩ (.int .u64 x.old)).setCell ⟨g, (k + 1) * 7 + 5, none⟩ (.int .u64 x.now)).setCell ⟨g, (k + 1) * 7 + 6, none⟩ (.bool x.ok)) := by
        exact Below.setCell (Below.setCell (Below.setCell (Below.setCell (Below.setCell (Below.setCell (Below.setCell (Below.setCell (Below.setCell (Below.setCell (Below.setCell (Below.setCell (Below.setCell (Below.setCell HB1.out hbg _) hbg _) hbg _) hbg _) hbg _) hbg _) hbg _) hbg _) hbg _) hbg _) hbg _) hbg _) hbg _) hbg _
      have hOw := own_acc (own_acc HO.out HN.out k (by omega) y) (by simpa using HN.out) (k + 1) (by omega) x
      have HBW := Lib.hid hBw
      have HOW := Lib.hid hOw
      clear hBw hOw
      generalize ((((((((((((((w2.setCell ⟨g, k * 7, none⟩ (.int .i64 y.thread)).setCell ⟨g, k * 7 + 1, none⟩ (.int .i64 y.kind)).setCell ⟨g, k * 7 + 2, none⟩ (.int .i64 y.addr)).setCell ⟨g, k * 7 + 3, none⟩ (.int .u64 y.want)).setCell ⟨g, k * 7 + 4, none⟩ (.int .u64 y.old)).setCell ⟨g, k * 7 + 5, none⟩ (.int .u64 y.now)).setCell ⟨g, k * 7 + 6, none⟩ (.bool y.ok)).setCell ⟨g, (k + 1) * 7, none⟩ (.int .i64 x.thread)).setCell ⟨g, (k + 1) * 7 + 1, none⟩ (.int .i64 x.kind)).setCell ⟨g, (k + 1) * 7 + 2, none⟩ (.int .i64 x.addr)).setCell ⟨g, (k + 1) * 7 + 3, none⟩ (.int .u64 x.want)).setCell ⟨g, (k + 1) * 7 + 4, none⟩ (.int .u64 x.old)).setCell ⟨g, (k + 1) * 7 + 5, none⟩ (.int .u64 x.now)).setCell ⟨g, (k + 1) * 7 + 6, none⟩ (.bool x.ok)) = w3 at *
      go_wp2
      go_ret2
      have hsl : swapS l k = (l.set k y).set (k + 1) x := by unfold swapS; rw [HX.out, HY.out]
      unfold RetSwap
      rw [hsl]
      simp only [List.length_set, HN.out]
      exact ⟨_, _, rfl, (own_rd HOW.out), own_cap HOW.out, HBW.out.drew⟩

end Go.Proofs.Ytmllbailfbjoeaa
