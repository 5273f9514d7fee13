/- The law CommuteSame, walked: two neighbours that may change places, changed, do the same, and have the same order. -/
import Derived.Test.YtmllbailfbjoeaaSame
import Derived.Test.YtmllbailfbjoeaaLawNormal
namespace Go.Proofs.Ytmllbailfbjoeaa
open Go.RowKit Go.Sort

theorem may_parts {l : List Acc} {i : Int} (h : mayB l i = true) : i.toNat + 1 < l.length ∧ freeB (l.getD i.toNat Acc.none) (l.getD (i.toNat + 1) Acc.none) = true := by
  unfold mayB at h
  simp only [Bool.and_eq_true, decide_eq_true_eq] at h
  exact ⟨by omega, h.2⟩

set_option maxHeartbeats 8000000 in
set_option maxRecDepth 100000 in
theorem LawSame_any (A B : Option Addr) (c d : Nat) (ws : List Int) (l : List Acc) (i : Int) (w : World) (hn : ws.length * 8 ≤ 140737488355328) (hlm : l.length ≤ maxLen) (hld : l.length ≤ d) (hi1 : -9223372036854775808 ≤ i) (hi2 : i ≤ 9223372036854775807) (hA : Rd w A (words ws)) (hB : Rd w B (accs l)) :
    Calls Try.prog 8 #[.slice A ws.length c, .slice B l.length d, .int .i64 i] w fun e w' => e = .returned (.bool true) ∧ Below w.heap.size w w' := by
  unfold maxLen at hlm
  have HA := Lib.hid hA
  have HB := Lib.hid hB
  clear hA hB
  by_cases h80 : 80 < l.length
  · have g : (80 : Int) < (l.length : Int) := by omega
    generalize l.length = m at *
    generalize ws.length = n at *
    go_enter Try.func8, Try.ntmps8
    go_wp2_with fail
    refine (awake28_any _).mono ?_
    rintro er w1 ⟨rfl, hb1⟩
    go_wp2
    go_ret
    exact ⟨rfl, hb1⟩
  · have HSW := Lib.hid (fun W h => Swapped_any B d l i W (by omega) hi1 hi2 h)
    have HR1 := Lib.hid (fun W h1 h2 => Redo_any A B c d ws l W hn (by unfold maxLen; omega) h1 h2)
    have HWN := Lib.hid (And.intro hn (And.intro h80 hld))
    have HC1 := Lib.hid (fun W h => Clashes_any B d l W (by omega) hld h)
    have g : ¬ ((80 : Int) < (l.length : Int)) := by omega
    cases hmay : mayB l i
    · rw [hmay] at HSW
      simp only [Bool.false_eq_true, if_false] at HSW
      have HLG := Lib.hid (fun A5 c5 W h1 h2 => Log_any A5 B c5 d l l W (by unfold maxLen; omega) (by unfold maxLen; omega) h1 h2)
      generalize hm : l.length = m at *
      generalize hnn : ws.length = n at *
      have HM := Lib.hid hm
      clear hm hnn HWN HR1 hmay HC1
      go_enter Try.func8, Try.ntmps8
      go_wp2_with fail
      refine (HSW.out _ HB.out).mono ?_
      rintro er w1 ⟨A1, c1, rfl, hrd, hlc, hb1⟩
      rw [HM.out] at hlc ⊢
      have HRD := Lib.hid hrd
      have HB1 := Lib.hid hb1
      clear hrd hb1
      go_wp2_with fail
      refine (HLG.out A1 c1 _ HRD.out (HB.out.below HB1.out)).mono ?_
      rintro er w2 ⟨rfl, hb2⟩
      have hll : (l == l) = true := beq_self_eq_true _
      rw [hll]
      clear hll
      have HB2 := Lib.hid (HB1.out.trans (hb2.mono HB1.out.size))
      clear hb2
      go_wp2_with fail
      refine (awake28_any _).mono ?_
      rintro er w7 ⟨rfl, hb7⟩
      have HB7 := Lib.hid (HB2.out.trans (hb7.mono HB2.out.size))
      clear hb7
      go_wp2
      go_ret
      exact ⟨rfl, HB7.out⟩
    · rw [hmay] at HSW
      simp only [if_true] at HSW
      obtain ⟨hi, hf⟩ := may_parts hmay
      have hsl := swap_length l i.toNat
      have HRS := Lib.hid (redo_same l i.toNat hi hf ws)
      have HCS := Lib.hid (cls_swap l i.toNat hi hf)
      have HOS := Lib.hid (fun os os' ho ho' => order_swap (os := os) (os' := os') hi hf ho ho')
      clear hmay hi hf
      generalize swapS l i.toNat = x at *
      have HR2 := Lib.hid (fun A1 c1 W h1 h2 => Redo_any A A1 c c1 ws x W hn (by rw [hsl]; unfold maxLen; omega) h1 h2)
      have HC2 := Lib.hid (fun A1 c1 W h h' => Clashes_any A1 c1 x W (by rw [hsl]; omega) h h')
      have HSM := Lib.hid (fun A1 c1 W h h1 h2 => Same_any B A1 d c1 l x W (by omega) (by rw [hsl]; omega) hld h h1 h2)
      rw [hsl] at HR2 HC2 HSM HCS
      have HLE1 := Lib.hid (redo_len l ws)
      have HLE2 := Lib.hid (redo_len x ws)
      generalize hm : l.length = m at *
      generalize hnn : ws.length = n at *
      have HM := Lib.hid hm
      have HX := Lib.hid hsl
      have HN := Lib.hid hnn
      clear hm hnn hsl
      go_enter Try.func8, Try.ntmps8
      go_wp2_with fail
      refine (HSW.out _ HB.out).mono ?_
      rintro er w1 ⟨A1, c1, rfl, hrd, hlc, hb1⟩
      rw [HX.out] at hlc ⊢
      have HRD := Lib.hid hrd
      have HB1 := Lib.hid hb1
      clear hrd hb1
      go_wp2_with fail
      refine (HR1.out _ (HA.out.below HB1.out) (HB.out.below HB1.out)).mono ?_
      rintro er w2 ⟨A2, c2, rfl, hrd2, hb2⟩
      have HRD2 := Lib.hid hrd2
      have HB2 := Lib.hid (HB1.out.trans (hb2.mono HB1.out.size))
      replace HRD := Lib.hid (HRD.out.below hb2)
      clear hrd2 hb2
      go_wp2_with fail
      refine (HR2.out A1 c1 _ (HA.out.below HB2.out) HRD.out).mono ?_
      rintro er w3 ⟨A3, c3, rfl, hrd3, hb3⟩
      have HRD3 := Lib.hid hrd3
      have HB3 := Lib.hid (HB2.out.trans (hb3.mono HB2.out.size))
      replace HRD := Lib.hid (HRD.out.below hb3)
      replace HRD2 := Lib.hid (HRD2.out.below hb3)
      clear hrd3 hb3
      have HWD : RowKit.Hid (∀ W, Rd W A2 (words (redoS ws l).1) → Rd W A3 (words (redoS ws x).1) → Calls Try.prog 56 #[.slice A2 (redoS ws l).1.length c2, .slice A3 (redoS ws x).1.length c3] W fun e w' => e = .returned (.bool true) ∧ Below W.heap.size W w') := by
        refine Lib.hid fun W h1 h2 => ?_
        have := HWN.out.1
        have t1 := HLE1.out
        have t2 := HLE2.out
        have h := Words_any A2 A3 c2 c3 _ _ W (by unfold maxLen; omega) (by unfold maxLen; omega) h1 h2
        rw [show ((redoS ws l).1 == (redoS ws x).1) = true by rw [HRS.out.2]; exact beq_self_eq_true _] at h
        exact h
      have he := HRS.out.1
      clear HRS
      generalize (redoS ws l).2 = e1 at *
      generalize (redoS ws x).2 = e2 at *
      generalize (redoS ws l).1 = r1 at *
      generalize (redoS ws x).1 = r2 at *
      generalize r1.length = n1 at *
      generalize r2.length = n2 at *
      cases hz : (e2 == 0)
      all_goals
        rw [hz] at he
        go_wp2_with fail
        refine (HWD.out _ HRD2.out HRD3.out).mono ?_
        rintro er w4 ⟨rfl, hb4⟩
        have HB4 := Lib.hid (HB3.out.trans (hb4.mono HB3.out.size))
        replace HRD := Lib.hid (HRD.out.below hb4)
        clear hb4 he hz
        go_wp2_with fail
        refine (HSM.out A1 c1 _ hlc (HB.out.below HB4.out) HRD.out).mono ?_
        rintro er w5 ⟨os, os', ho, ho', rfl, hb5⟩
        rw [HOS.out os os' ho ho', show (os.map (at_ l) == os.map (at_ l)) = true from beq_self_eq_true _]
        have HB5 := Lib.hid (HB4.out.trans (hb5.mono HB4.out.size))
        replace HRD := Lib.hid (HRD.out.below hb5)
        clear hb5 ho ho'
        go_wp2_with fail
        refine (HC1.out _ (HB.out.below HB5.out)).mono ?_
        rintro er w6 ⟨rfl, hb6⟩
        have HB6 := Lib.hid (HB5.out.trans (hb6.mono HB5.out.size))
        replace HRD := Lib.hid (HRD.out.below hb6)
        clear hb6
        go_wp2_with fail
        refine (HC2.out A1 c1 _ hlc HRD.out).mono ?_
        rintro er w7 ⟨rfl, hb7⟩
        rw [HCS.out]
        have HB7 := Lib.hid (HB6.out.trans (hb7.mono HB6.out.size))
        clear hb7
        generalize cls l m = cc at *
        go_wp2_with fail
        refine (awake28_any _).mono ?_
        rintro er w8 ⟨rfl, hb8⟩
        have HB8 := Lib.hid (HB7.out.trans (hb8.mono HB7.out.size))
        clear hb8
        go_wp2
        go_ret
        exact ⟨rfl, HB8.out⟩

end Go.Proofs.Ytmllbailfbjoeaa
