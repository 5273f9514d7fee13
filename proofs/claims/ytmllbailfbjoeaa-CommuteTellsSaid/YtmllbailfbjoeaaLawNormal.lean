/- The law CommuteNormal, walked: accesses in the order do the same, and stand in it already. -/
import Derived.Test.YtmllbailfbjoeaaPlain28c
import Derived.Test.YtmllbailfbjoeaaAwake28
import Derived.Test.YtmllbailfbjoeaaRedo2
namespace Go.Proofs.Ytmllbailfbjoeaa
open Go.RowKit Go.Sort

theorem redo_len : ∀ (l : List Acc) (ws : List Int), (redoS ws l).1.length ≤ ws.length
  | [], ws => by rw [redoS]; exact Nat.le_refl _
  | a :: l, ws => by
    have ih := redo_len l (ws.set a.addr.toNat a.now)
    rw [List.length_set] at ih
    rw [redoS]
    split
    · exact ih
    · exact Nat.zero_le _

theorem at_map (l : List Acc) (os : List Int) : (os.map fun i => l.getD i.toNat Acc.none) = os.map (at_ l) := rfl

set_option maxHeartbeats 8000000 in
set_option maxRecDepth 100000 in
theorem LawNormal_any (A B : Option Addr) (c d : Nat) (ws : List Int) (l : List Acc) (w : World) (hn : ws.length * 8 ≤ 140737488355328) (hlm : l.length ≤ maxLen) (hld : l.length ≤ d) (hA : Rd w A (words ws)) (hB : Rd w B (accs l)) :
    Calls Try.prog 7 #[.slice A ws.length c, .slice B l.length d] w fun e w' => e = .returned (.bool true) ∧ Below w.heap.size w w' := by
  unfold maxLen at hlm
  have HA := Lib.hid hA
  have HB := Lib.hid hB
  clear hA hB
  by_cases h80 : 80 < l.length
  · have g : (80 : Int) < (l.length : Int) := by omega
    generalize l.length = m at *
    generalize ws.length = n at *
    go_enter Try.func7, Try.ntmps7
    go_wp2_with fail
    refine (awake28_any _).mono ?_
    rintro er w1 ⟨rfl, hb1⟩
    go_wp2
    go_ret
    exact ⟨rfl, hb1⟩
  · have HNM := Lib.hid (fun W h => Normal_any B d l W (by omega) hld h)
    have HR1 := Lib.hid (fun W h1 h2 => Redo_any A B c d ws l W hn (by unfold maxLen; omega) h1 h2)
    have HWN := Lib.hid (And.intro hn (And.intro h80 hld))
    have g : ¬ ((80 : Int) < (l.length : Int)) := by omega
    generalize hm : l.length = m at *
    generalize hnn : ws.length = n at *
    have HM := Lib.hid hm
    have HN := Lib.hid hnn
    clear hm hnn
    go_enter Try.func7, Try.ntmps7
    go_wp2_with fail
    refine (HNM.out _ HB.out).mono ?_
    rintro er w1 ⟨os, hp, hr, A1, c1, rfl, hrd, hlc, hb1⟩
    have hord : IsOrder l os := ⟨hp, hr⟩
    rw [at_map] at hrd hlc ⊢
    have HORD := Lib.hid hord
    have hlen : (os.map (at_ l)).length = m := by rw [List.length_map, hord.len, HM.out]
    rw [hlen] at hlc ⊢
    have HL := Lib.hid hlen
    have HRD := Lib.hid hrd
    have HB1 := Lib.hid hb1
    clear hp hr hord hlen hrd hb1
    go_wp2_with fail
    refine (HR1.out _ (HA.out.below HB1.out) (HB.out.below HB1.out)).mono ?_
    rintro er w2 ⟨A2, c2, rfl, hrd2, hb2⟩
    have HRD2 := Lib.hid hrd2
    have HB2 := Lib.hid (HB1.out.trans (hb2.mono HB1.out.size))
    replace HRD := Lib.hid (HRD.out.below hb2)
    clear hrd2 hb2
    go_wp2_with fail
    have HR2 := Lib.hid (fun W h1 h2 => Redo_any A A1 c c1 ws (os.map (at_ l)) W (by rw [HN.out]; exact HWN.out.1) (by rw [HL.out]; unfold maxLen; omega) h1 h2)
    rw [HL.out, HN.out] at HR2
    refine (HR2.out _ (HA.out.below HB2.out) HRD.out).mono ?_
    rintro er w3 ⟨A3, c3, rfl, hrd3, hb3⟩
    have HRD3 := Lib.hid hrd3
    have HB3 := Lib.hid (HB2.out.trans (hb3.mono HB2.out.size))
    replace HRD := Lib.hid (HRD.out.below hb3)
    replace HRD2 := Lib.hid (HRD2.out.below hb3)
    clear hrd3 hb3
    have HNM2 : RowKit.Hid (∀ W, Rd W A1 (accs (os.map (at_ l))) → Calls Try.prog 50 #[.slice A1 m c1] W (RetAccs (os.map (at_ l)) W)) := by
      refine Lib.hid fun W h => ?_
      have h1 := Normal_any A1 c1 (os.map (at_ l)) W (by rw [HL.out]; omega) (by rw [HL.out]; exact hlc) h
      rw [HL.out] at h1
      refine h1.mono ?_
      rintro e w' ⟨os', hp', hr', hret⟩
      rw [at_map, order_stands HORD.out ⟨hp', hr'⟩] at hret
      exact hret
    have HLG : RowKit.Hid (∀ A5 c5 W, Rd W A5 (accs (os.map (at_ l))) → Rd W A1 (accs (os.map (at_ l))) → Calls Try.prog 49 #[.slice A5 m c5, .slice A1 m c1] W fun e w' => e = .returned (.bool (os.map (at_ l) == os.map (at_ l))) ∧ Below W.heap.size W w') := by
      refine Lib.hid fun A5 c5 W h1 h2 => ?_
      have h := Log_any A5 A1 c5 c1 (os.map (at_ l)) (os.map (at_ l)) W (by rw [HL.out]; unfold maxLen; omega) (by rw [HL.out]; unfold maxLen; omega) h1 h2
      rw [HL.out] at h
      exact h
    by_cases hz : (redoS ws l).2 = 0
    · have hst : redoS ws l = ((redoS ws l).1, 0) := by rw [← hz]
      have hst2 := order_redo HORD.out ws _ hst
      have hle := redo_len l ws
      rw [HN.out] at hle
      rw [hst2] at HRD3 ⊢
      rw [hz]
      have HWD : RowKit.Hid (∀ W, Rd W A2 (words (redoS ws l).1) → Rd W A3 (words (redoS ws l).1) → Calls Try.prog 56 #[.slice A2 (redoS ws l).1.length c2, .slice A3 (redoS ws l).1.length c3] W fun e w' => e = .returned (.bool ((redoS ws l).1 == (redoS ws l).1)) ∧ Below W.heap.size W w') := by
        refine Lib.hid fun W h1 h2 => ?_
        have := HWN.out.1
        exact Words_any A2 A3 c2 c3 _ _ W (by unfold maxLen; omega) (by unfold maxLen; omega) h1 h2
      clear hst hst2 hz hle
      generalize (redoS ws l).1 = rr at *
      generalize rr.length = n1 at *
      go_wp2_with fail
      refine (HWD.out _ HRD2.out HRD3.out).mono ?_
      rintro er w4 ⟨rfl, hb4⟩
      have hrr : (rr == rr) = true := beq_self_eq_true _
      rw [hrr]
      have HB4 := Lib.hid (HB3.out.trans (hb4.mono HB3.out.size))
      replace HRD := Lib.hid (HRD.out.below hb4)
      clear hb4
      go_wp2_with fail
      refine (HNM2.out _ HRD.out).mono ?_
      rintro er w5 ⟨A5, c5, rfl, hrd5, hlc5, hb5⟩
      rw [HL.out]
      have HRD5 := Lib.hid hrd5
      have HB5 := Lib.hid (HB4.out.trans (hb5.mono HB4.out.size))
      replace HRD := Lib.hid (HRD.out.below hb5)
      clear hrd5 hb5
      go_wp2_with fail
      refine (HLG.out A5 c5 _ HRD5.out HRD.out).mono ?_
      rintro er w6 ⟨rfl, hb6⟩
      have HB6 := Lib.hid (HB5.out.trans (hb6.mono HB5.out.size))
      clear hb6
      have hll : (os.map (at_ l) == os.map (at_ l)) = true := beq_self_eq_true _
      rw [hll]
      go_wp2_with fail
      refine (awake28_any _).mono ?_
      rintro er w7 ⟨rfl, hb7⟩
      have HB7 := Lib.hid (HB6.out.trans (hb7.mono HB6.out.size))
      clear hb7
      go_wp2
      go_ret
      exact ⟨rfl, HB7.out⟩
    · have hz1 : ((redoS ws l).2 != 0) = true := by simpa using hz
      have HB4 := HB3
      generalize (redoS ws l).2 = e1 at *
      generalize (redoS ws l).1.length = n1 at *
      go_wp2_with fail
      refine (HNM2.out _ HRD.out).mono ?_
      rintro er w5 ⟨A5, c5, rfl, hrd5, hlc5, hb5⟩
      rw [HL.out]
      have HRD5 := Lib.hid hrd5
      have HB5 := Lib.hid (HB4.out.trans (hb5.mono HB4.out.size))
      replace HRD := Lib.hid (HRD.out.below hb5)
      clear hrd5 hb5
      go_wp2_with fail
      refine (HLG.out A5 c5 _ HRD5.out HRD.out).mono ?_
      rintro er w6 ⟨rfl, hb6⟩
      have HB6 := Lib.hid (HB5.out.trans (hb6.mono HB5.out.size))
      clear hb6
      have hll : (os.map (at_ l) == os.map (at_ l)) = true := beq_self_eq_true _
      rw [hll]
      go_wp2_with fail
      refine (awake28_any _).mono ?_
      rintro er w7 ⟨rfl, hb7⟩
      have HB7 := Lib.hid (HB6.out.trans (hb7.mono HB6.out.size))
      clear hb7
      go_wp2
      go_ret
      exact ⟨rfl, HB7.out⟩

end Go.Proofs.Ytmllbailfbjoeaa
