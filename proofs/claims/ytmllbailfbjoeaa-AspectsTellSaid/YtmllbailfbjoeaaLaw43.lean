/- The law AspectsTell, walked: what a queue can't have told, of any history, and what is left. -/
import Derived.Test.YtmllbailfbjoeaaAwake43
import Derived.Test.YtmllbailfbjoeaaRef43k
import Derived.Test.YtmllbailfbjoeaaRef43l
namespace Go.Proofs.Ytmllbailfbjoeaa
open Go.RowKit Go.Sort

theorem passed_len (l : List Kall) : (passedS l).length ≤ l.length * l.length := by
  have h := allP_len l (sureS l) (sureS l).length
  have h1 := sure_len l
  exact Nat.le_trans h (Nat.mul_le_mul h1 h1)
theorem fresh_len (l : List Kall) : (freshS l).length ≤ l.length := freshTo_len l l.length
theorem twice_len (l : List Kall) : (twiceS l).length ≤ l.length := Nat.le_trans (List.length_filter_le _ _) (values_len l)
theorem denied_len (l : List Kall) : (deniedS l).length ≤ l.length := by unfold deniedS; rw [List.length_map]; exact List.length_filter_le _ _
theorem under_len (l : List Kall) : (underS l).length ≤ l.length := by unfold underS; rw [List.length_map]; exact Nat.le_trans (List.length_filter_le _ _) (sure_len l)

/-- Two rows of the same numbers are the same. -/
theorem ints_refl (A B : Option Addr) (c d : Nat) (l : List Int) (w : World) (hl : l.length ≤ maxLen) (hA : Rd w A (ints l)) (hB : Rd w B (ints l)) :
    Calls Try.prog 35 #[.slice A l.length c, .slice B l.length d] w fun e w' => e = .returned (.bool true) ∧ Below w.heap.size w w' := by
  have h := Ints_any A B c d l l w hl hl hA hB
  rw [show (l == l) = true from beq_self_eq_true _] at h
  exact h

theorem pair_cells {w : World} {b o : Nat} {l : List Pr} (hc : ∀ k v, (rows l)[k]? = some v → w.cell? ⟨b, o + k, none⟩ = some v) {k : Nat} (hk : k < l.length) {x : Pr} (hx : l.getD k Pr.none = x) :
    w.cell? ⟨b, o + k * 2, none⟩ = some (.int .i64 x.fst) ∧ w.cell? ⟨b, o + k * 2 + 1, none⟩ = some (.int .i64 x.snd) := by
  have h := rec_cell hc hk hx
  exact ⟨h 0 _ rfl, h 1 _ rfl⟩

set_option maxHeartbeats 16000000 in
set_option maxRecDepth 100000 in
theorem Law43_any (A : Option Addr) (c : Nat) (ns : List Nte) (w : World) (hlm : ns.length ≤ maxLen) (hok : ThreadsOk ns) (hR : Rd w A (rows ns)) :
    Calls Try.prog 5 #[.slice A ns.length c] w fun e w' => e = .returned (.bool true) ∧ Below w.heap.size w w' := by
  unfold maxLen at hlm
  by_cases h80 : 80 < ns.length
  · have g : (80 : Int) < (ns.length : Int) := by omega
    clear hR hok
    generalize ns.length = m at *
    go_enter Try.func5, Try.ntmps5
    go_wp2_with fail
    refine (awake43_any _).mono ?_
    rintro er w1 ⟨rfl, hb1⟩
    go_wp2
    go_ret
    exact ⟨rfl, hb1⟩
  · have HR := Lib.hid hR
    have HP := Lib.hid (fun W h => Passed_any A c ns W (by omega) hok h)
    have HRP := Lib.hid (fun W h => rPassed_any A c ns W (by omega) h)
    have HF := Lib.hid (fun W h => Fresh_any A c ns W (by omega) hok h)
    have HRF := Lib.hid (fun W h => rFresh_any A c ns W (by omega) h)
    have HT := Lib.hid (fun W h => Twice_any A c ns W (by omega) hok h)
    have HRT := Lib.hid (fun W h => rTwice_any A c ns W (by omega) h)
    have HD := Lib.hid (fun W h => Denied_any A c ns W (by omega) hok h)
    have HRD := Lib.hid (fun W h => rDenied_any A c ns W (by omega) h)
    have HCO := Lib.hid (fun W h => Counts_any A c ns W (by omega) hok h)
    have HRC := Lib.hid (fun W h => rCounts_any A c ns W (by omega) h)
    have HSE := Lib.hid (fun W h => Settled_any A c ns W (by omega) hok h)
    have HWR := Lib.hid (fun W h => Wrong_any A c ns W (by omega) hok h)
    have HV := Lib.hid (fun W h => Values_any A c ns W (by omega) hok h)
    have HRV := Lib.hid (fun W h => rValues_any A c ns W (by omega) h)
    have HU := Lib.hid (fun W h => Under_any A c ns W (by omega) hok h)
    have HRU := Lib.hid (fun W h => rUnder_any A c ns W (by omega) h)
    rw [under_same] at HRU
    rw [settled_open] at HSE
    rw [wrong_sum] at HWR
    have g : ¬ ((80 : Int) < (ns.length : Int)) := by omega
    have hcl := calls_len ns
    have b1 := passed_len (callsS ns)
    have b2 := fresh_len (callsS ns)
    have b3 := twice_len (callsS ns)
    have b4 := denied_len (callsS ns)
    have b5 := under_len (callsS ns)
    have b6 := values_len (callsS ns)
    have b7 : (callsS ns).length * (callsS ns).length ≤ 80 * 80 := Nat.mul_le_mul (by omega) (by omega)
    clear hR hok
    generalize callsS ns = l at *
    generalize ns.length = m at *
    generalize hcn : l.length = cn at *
    clear hcn
    replace b1 : (passedS l).length ≤ 6400 := by omega
    clear b7
    generalize hpl : (passedS l).length = pn at *
    have HPL := Lib.hid hpl
    clear hpl
    go_enter Try.func5, Try.ntmps5
    go_wp2_with fail
    refine (HP.out _ HR.out).mono ?_
    rintro e w1 ⟨P1, d1, rfl, hr1, _, _, hb1⟩
    rw [HPL.out]
    have HB1 := Lib.hid hb1
    have HR1 := Lib.hid hr1
    clear hb1 hr1
    go_wp2_with fail
    refine (HRP.out _ (HR.out.below HB1.out)).mono ?_
    rintro e w2 ⟨P2, d2, rfl, hr2, _, _, hb2⟩
    rw [HPL.out]
    have HB2 := Lib.hid (HB1.out.trans (hb2.mono HB1.out.size))
    have HR2 := Lib.hid hr2
    replace HR1 := Lib.hid (HR1.out.below hb2)
    clear hb2 hr2 HB1
    go_wp2
    go_loopw [27] (fun i wr => ∃ k : Nat, k ≤ pn ∧ i = .int .i64 k ∧ Below w2.heap.size w2 wr) (fun i _ => pn - (intOf i).toNat)
    case atStart => exact ⟨0, Nat.zero_le _, rfl, Below.refl _ _⟩
    case round =>
      obtain ⟨k, hk, rfl, hb⟩ := hrel
      have HB := Lib.hid hb
      clear hb
      by_cases hlt : k < pn
      · have hkl : k < (passedS l).length := by rw [HPL.out]; exact hlt
        obtain ⟨ba, oa, rfl, hba, hca⟩ := (HR1.out.below HB.out).at_ (by rw [rows_length]; exact Nat.mul_pos (by omega) (by decide))
        obtain ⟨bb, ob, rfl, hbb, hcb⟩ := (HR2.out.below HB.out).at_ (by rw [rows_length]; exact Nat.mul_pos (by omega) (by decide))
        generalize hx : (passedS l).getD k Pr.none = x
        obtain ⟨a0, a1⟩ := pair_cells hca hkl hx
        obtain ⟨c0, c1⟩ := pair_cells hcb hkl hx
        clear hca hcb hx hkl
        have q1 : (0 : Int) ≤ (k : Int) := by omega
        have q2 : (k : Int) < (pn : Int) := by omega
        go_wp2
        go_quiet (fail)
        go_wp2
        go_roundw
        case rel => exact ⟨k + 1, by omega, by go_num, Below.drewN' HB.out _⟩
        case measure => simp [intOf]; omega
      · obtain rfl : k = pn := by omega
        have HB3 := Lib.hid (HB2.out.trans (HB.out.mono HB2.out.size))
        generalize wr = w3 at *
        clear HB HR1 HR2 HB2
        generalize hfl : (freshS l).length = fn at *
        generalize htl : (twiceS l).length = tn at *
        generalize hdl : (deniedS l).length = dn at *
        have HFL := Lib.hid hfl
        have HTL := Lib.hid htl
        have HDL := Lib.hid hdl
        clear hfl htl hdl
        go_wp2_with fail
        refine (HRF.out _ (HR.out.below HB3.out)).mono ?_
        rintro e w4 ⟨L4, d4, rfl, ho4, hb4⟩
        have HL4 := Lib.hid (own_rd ho4)
        clear ho4
        replace HB3 := Lib.hid (HB3.out.trans (hb4.mono HB3.out.size))
        clear hb4
        rw [HFL.out]
        go_wp2_with fail
        refine (HRT.out _ (HR.out.below HB3.out)).mono ?_
        rintro e w5 ⟨L5, d5, rfl, ho5, hb5⟩
        have HL5 := Lib.hid (own_rd ho5)
        clear ho5
        replace HB3 := Lib.hid (HB3.out.trans (hb5.mono HB3.out.size))
        clear hb5
        rw [HTL.out]
        go_wp2_with fail
        refine (HRD.out _ (HR.out.below HB3.out)).mono ?_
        rintro e w6 ⟨L6, d6, rfl, ho6, hb6⟩
        have HL6 := Lib.hid (own_rd ho6)
        clear ho6
        replace HB3 := Lib.hid (HB3.out.trans (hb6.mono HB3.out.size))
        clear hb6
        rw [HDL.out]
        go_wp2_with fail
        refine (HCO.out _ (HR.out.below HB3.out)).mono ?_
        rintro e w7 ⟨rfl, hb7⟩
        replace HB3 := Lib.hid (HB3.out.trans (hb7.mono HB3.out.size))
        clear hb7
        generalize putN l = p1 at *
        generalize tookN l = p2 at *
        generalize openN l = p3 at *
        generalize hq3 : decide (((p3 : Nat) : Int) = 0) = bq at *
        have e1 : (((p3 : Nat) : Int) == 0) = bq := hq3
        have e2 : (bq != bq) = false := by simp
        clear hq3
        have hwn : decide (0 < k + fn + tn + dn) = decide ((0 : Int) < (k : Int) + (fn : Int) + (tn : Int) + (dn : Int)) := by rw [Bool.eq_iff_iff, decide_eq_true_iff, decide_eq_true_iff]; omega
        rw [hwn] at HWR
        clear hwn
        generalize decide ((0 : Int) < (k : Int) + (fn : Int) + (tn : Int) + (dn : Int)) = bw at *
        have e3 : (bw != bw) = false := by simp
        go_wp2_with fail
        refine (HRC.out _ (HR.out.below HB3.out)).mono ?_
        rintro e w8 ⟨rfl, hb8⟩
        replace HB3 := Lib.hid (HB3.out.trans (hb8.mono HB3.out.size))
        clear hb8
        go_wp2_with fail
        refine (HSE.out _ (HR.out.below HB3.out)).mono ?_
        rintro e w9 ⟨rfl, hb9⟩
        replace HB3 := Lib.hid (HB3.out.trans (hb9.mono HB3.out.size))
        clear hb9
        go_wp2_with fail
        refine (HWR.out _ (HR.out.below HB3.out)).mono ?_
        rintro e w10 ⟨rfl, hb10⟩
        replace HB3 := Lib.hid (HB3.out.trans (hb10.mono HB3.out.size))
        clear hb10
        generalize hvl : (valuesS l).length = vn at *
        generalize hul : (underS l).length = un at *
        have HVL := Lib.hid hvl
        have HUL := Lib.hid hul
        clear hvl hul
        go_wp2_with fail
        refine (HV.out _ (HR.out.below HB3.out)).mono ?_
        rintro e w11 ⟨L11, d11, rfl, ho11, hb11⟩
        have HL11 := Lib.hid (own_rd ho11)
        clear ho11
        replace HB3 := Lib.hid (HB3.out.trans (hb11.mono HB3.out.size))
        clear hb11
        rw [HVL.out]
        go_wp2_with fail
        refine (HRV.out _ (HR.out.below HB3.out)).mono ?_
        rintro e w12 ⟨L12, d12, rfl, ho12, hb12⟩
        have HL12 := Lib.hid (own_rd ho12)
        clear ho12
        replace HL11 := Lib.hid (HL11.out.below hb12)
        replace HB3 := Lib.hid (HB3.out.trans (hb12.mono HB3.out.size))
        clear hb12
        rw [HVL.out]
        go_wp2_with fail
        have HI := Lib.hid (ints_refl L11 L12 d11 d12 (valuesS l) w12 (by unfold maxLen; rw [HVL.out]; omega) HL11.out HL12.out)
        rw [HVL.out] at HI
        refine HI.out.mono ?_
        clear HI
        rintro e w13 ⟨rfl, hb13⟩
        replace HB3 := Lib.hid (HB3.out.trans (hb13.mono HB3.out.size))
        clear hb13
        clear HL11 HL12
        go_wp2_with fail
        refine (HF.out _ (HR.out.below HB3.out)).mono ?_
        rintro e w14 ⟨L14, d14, rfl, ho14, hb14⟩
        have HL14 := Lib.hid (own_rd ho14)
        clear ho14
        replace HB3 := Lib.hid (HB3.out.trans (hb14.mono HB3.out.size))
        clear hb14
        rw [HFL.out]
        go_wp2_with fail
        refine (HRF.out _ (HR.out.below HB3.out)).mono ?_
        rintro e w15 ⟨L15, d15, rfl, ho15, hb15⟩
        have HL15 := Lib.hid (own_rd ho15)
        clear ho15
        replace HL14 := Lib.hid (HL14.out.below hb15)
        replace HB3 := Lib.hid (HB3.out.trans (hb15.mono HB3.out.size))
        clear hb15
        rw [HFL.out]
        go_wp2_with fail
        have HI := Lib.hid (ints_refl L14 L15 d14 d15 (freshS l) w15 (by unfold maxLen; rw [HFL.out]; omega) HL14.out HL15.out)
        rw [HFL.out] at HI
        refine HI.out.mono ?_
        clear HI
        rintro e w16 ⟨rfl, hb16⟩
        replace HB3 := Lib.hid (HB3.out.trans (hb16.mono HB3.out.size))
        clear hb16
        clear HL14 HL15
        go_wp2_with fail
        refine (HT.out _ (HR.out.below HB3.out)).mono ?_
        rintro e w17 ⟨L17, d17, rfl, ho17, _, _, hb17⟩
        have HL17 := Lib.hid ho17
        clear ho17
        replace HB3 := Lib.hid (HB3.out.trans (hb17.mono HB3.out.size))
        clear hb17
        rw [HTL.out]
        go_wp2_with fail
        refine (HRT.out _ (HR.out.below HB3.out)).mono ?_
        rintro e w18 ⟨L18, d18, rfl, ho18, hb18⟩
        have HL18 := Lib.hid (own_rd ho18)
        clear ho18
        replace HL17 := Lib.hid (HL17.out.below hb18)
        replace HB3 := Lib.hid (HB3.out.trans (hb18.mono HB3.out.size))
        clear hb18
        rw [HTL.out]
        go_wp2_with fail
        have HI := Lib.hid (ints_refl L17 L18 d17 d18 (twiceS l) w18 (by unfold maxLen; rw [HTL.out]; omega) HL17.out HL18.out)
        rw [HTL.out] at HI
        refine HI.out.mono ?_
        clear HI
        rintro e w19 ⟨rfl, hb19⟩
        replace HB3 := Lib.hid (HB3.out.trans (hb19.mono HB3.out.size))
        clear hb19
        clear HL17 HL18
        go_wp2_with fail
        refine (HD.out _ (HR.out.below HB3.out)).mono ?_
        rintro e w20 ⟨L20, d20, rfl, ho20, hb20⟩
        have HL20 := Lib.hid (own_rd ho20)
        clear ho20
        replace HB3 := Lib.hid (HB3.out.trans (hb20.mono HB3.out.size))
        clear hb20
        rw [HDL.out]
        go_wp2_with fail
        refine (HRD.out _ (HR.out.below HB3.out)).mono ?_
        rintro e w21 ⟨L21, d21, rfl, ho21, hb21⟩
        have HL21 := Lib.hid (own_rd ho21)
        clear ho21
        replace HL20 := Lib.hid (HL20.out.below hb21)
        replace HB3 := Lib.hid (HB3.out.trans (hb21.mono HB3.out.size))
        clear hb21
        rw [HDL.out]
        go_wp2_with fail
        have HI := Lib.hid (ints_refl L20 L21 d20 d21 (deniedS l) w21 (by unfold maxLen; rw [HDL.out]; omega) HL20.out HL21.out)
        rw [HDL.out] at HI
        refine HI.out.mono ?_
        clear HI
        rintro e w22 ⟨rfl, hb22⟩
        replace HB3 := Lib.hid (HB3.out.trans (hb22.mono HB3.out.size))
        clear hb22
        clear HL20 HL21
        go_wp2_with fail
        refine (HU.out _ (HR.out.below HB3.out)).mono ?_
        rintro e w23 ⟨L23, d23, rfl, ho23, hb23⟩
        have HL23 := Lib.hid (own_rd ho23)
        clear ho23
        replace HB3 := Lib.hid (HB3.out.trans (hb23.mono HB3.out.size))
        clear hb23
        rw [HUL.out]
        go_wp2_with fail
        refine (HRU.out _ (HR.out.below HB3.out)).mono ?_
        rintro e w24 ⟨L24, d24, rfl, ho24, hb24⟩
        have HL24 := Lib.hid (own_rd ho24)
        clear ho24
        replace HL23 := Lib.hid (HL23.out.below hb24)
        replace HB3 := Lib.hid (HB3.out.trans (hb24.mono HB3.out.size))
        clear hb24
        rw [HUL.out]
        go_wp2_with fail
        have HI := Lib.hid (ints_refl L23 L24 d23 d24 (underS l) w24 (by unfold maxLen; rw [HUL.out]; omega) HL23.out HL24.out)
        rw [HUL.out] at HI
        refine HI.out.mono ?_
        clear HI
        rintro e w25 ⟨rfl, hb25⟩
        replace HB3 := Lib.hid (HB3.out.trans (hb25.mono HB3.out.size))
        clear hb25
        clear HL23 HL24
        go_wp2_with fail
        refine (awake43_any _).mono ?_
        rintro e w26 ⟨rfl, hb26⟩
        replace HB3 := Lib.hid (HB3.out.trans (hb26.mono HB3.out.size))
        clear hb26
        go_wp2
        go_ret
        exact ⟨rfl, HB3.out⟩

end Go.Proofs.Ytmllbailfbjoeaa
