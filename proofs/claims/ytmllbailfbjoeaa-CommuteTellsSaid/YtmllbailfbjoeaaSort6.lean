/- slices.symMergeCmpFunc over numbers: two rows that do not fall become one. -/
import Derived.Test.YtmllbailfbjoeaaSort5
namespace Go.Proofs.Ytmllbailfbjoeaa
open Go.RowKit Go.Sort

theorem rot_id (xs : List Int) (s m e : Nat) (h1 : s ≤ m) (h2 : m ≤ e) (h3 : e ≤ xs.length) (h : s = m ∨ m = e) : rot xs s m e = xs := by
  apply List.ext_getElem?
  intro x
  rw [rot_get xs s m e x h1 h2 h3]
  repeat' split
  all_goals first | rfl | omega | (congr 1; omega)

/-- What is asked of the merge. -/
def SymOk (base g n cp : Nat) (f : FuncId) (caps : Array Value) (c : Int → Int → Int) (ok : Int → Prop) (N : Nat) : Prop :=
  ∀ (a m b : Nat) (A M B : Int) (xs : List Int) (w : World), A = a → M = m → B = b → b - a ≤ N → a < m → m < b → b ≤ n → RowI base g n cp w xs → Cmps g w f caps c ok → (∀ x ∈ xs, ok x) → Rises (ltOf c) a m xs → Rises (ltOf c) m b xs →
    Calls Try.prog 127 #[.slice (some ⟨g, 0, none⟩) n cp, .int .i64 A, .int .i64 M, .int .i64 B, .func (.func f) #[] caps] w (Sorted base g n cp a b (ltOf c) xs w)

theorem rises_one {lt : Int → Int → Bool} {a s mid : Nat} {ys : List Int} (h1 : Rises lt a s ys) (h2 : Rises lt s mid ys) (h : s ≤ a ∨ mid ≤ s) (ha : a ≤ s) : Rises lt a mid ys := by
  intro i j i1 i2 i3
  rcases h with h | h
  · exact h2 i j (by omega) i2 i3
  · exact h1 i j i1 i2 (by omega)

set_option maxHeartbeats 8000000 in
set_option maxRecDepth 100000 in
theorem symMerge_cb (base g n cp a m b : Nat) (f : FuncId) (caps : Array Value) (c : Int → Int → Int) (ok : Int → Prop) (N : Nat) (xs : List Int) (w : World) (hn : n ≤ 1048576) (hN : b - a ≤ N + 1) (ham : a + 1 < m) (hmb : m + 1 < b) (hb : b ≤ n) (hmm : (a + b) / 2 < m) (hR : RowI base g n cp w xs)
    (hf : Enters f) (hl : Less (ltOf c)) (hC : Cmps g w f caps c ok) (hok : ∀ x ∈ xs, ok x) (h1 : Rises (ltOf c) a m xs) (h2 : Rises (ltOf c) m b xs) (hIH : SymOk base g n cp f caps c ok N) :
    Calls Try.prog 127 #[.slice (some ⟨g, 0, none⟩) n cp, .int .i64 a, .int .i64 m, .int .i64 b, .func (.func f) #[] caps] w (Sorted base g n cp a b (ltOf c) xs w) := by
  have HR := Lib.hid hR
  have HC := Lib.hid hC
  have HL := Lib.hid hl
  have HOK := Lib.hid hok
  have HF := Lib.hid hf
  have H1 := Lib.hid h1
  have H2 := Lib.hid h2
  have HIH := Lib.hid hIH
  clear hR hC hl hok hf h1 h2 hIH
  have e1 : ((m : Int) - (a : Int) == 1) = false := by rw [beq_eq_false_iff_ne]; omega
  have e2 : ((b : Int) - (m : Int) == 1) = false := by rw [beq_eq_false_iff_ne]; omega
  have e3 : ((a : Int) + (b : Int)) / 2 < (m : Int) := by omega
  go_enter Try.func127, Try.ntmps127
  go_wp2
  have hmid : (((a : Int) + (b : Int)) / 2) = (((a + b) / 2 : Nat) : Int) := by omega
  rw [hmid]
  have hd1 : 2 * ((a + b) / 2) ≤ a + b := by omega
  have hd2 : a + b ≤ 2 * ((a + b) / 2) + 1 := by omega
  clear e3 hmid
  generalize (a + b) / 2 = mid at *
  go_loopw [20, 21] (fun u v wr => ∃ i j : Nat, (mid + m - b) ≤ i ∧ i ≤ j ∧ j ≤ mid ∧ u = .int .i64 i ∧ v = .int .i64 j ∧ Below w.heap.size w wr ∧ (i = (mid + m - b) ∨ ltOf c (xs.getD (mid + m - i) 0) (xs.getD (i - 1) 0) = false) ∧ (j = mid ∨ ltOf c (xs.getD (mid + m - 1 - j) 0) (xs.getD j 0) = true)) (fun u v _ => (intOf v).toNat - (intOf u).toNat)
  case atStart => exact ⟨(mid + m - b), mid, by omega, by omega, by omega, by go_num, by go_num, Below.refl _ _, .inl rfl, .inl rfl⟩
  case round =>
    obtain ⟨i, j, hi, hij, hj, rfl, rfl, hbw, hlo, hhi⟩ := hrel
    have HBW := Lib.hid hbw
    have HLO := Lib.hid hlo
    have HHI := Lib.hid hhi
    clear hbw hlo hhi
    by_cases hlt : i < j
    · go_wp2
      have hh : (((i : Int) + (j : Int)) / 2) = (((i + j) / 2 : Nat) : Int) := by omega
      rw [hh]
      have hb1 : i ≤ (i + j) / 2 := by omega
      have hb2 : (i + j) / 2 < j := by omega
      generalize (i + j) / 2 = h at *
      clear hh
      have hlen := HR.out.2
      have hrw := HR.out.below HBW.out
      have x1 := hrw.cell (k := mid + m - 1 - h) (by omega)
      have x2 := hrw.cell (k := h) (by omega)
      have HCALL : Hid (∀ W : World, Below wr.heap.size wr W → Calls Try.prog f (#[.int .i64 (xs.getD (mid + m - 1 - h) 0), .int .i64 (xs.getD h 0)] ++ caps) W fun e w'' => e = .returned (.int .i64 (c (xs.getD (mid + m - 1 - h) 0) (xs.getD h 0))) ∧ Below W.heap.size W w'') := by
        intro W hW
        exact HC.out _ _ (getD_ok HOK.out (by omega)) (getD_ok HOK.out (by omega)) W (.of_below (HBW.out.trans (hW.mono HBW.out.size)))
      have hw1 := IntWalk.i64_in ((mid : Int) + (m : Int) - 1 - (h : Int)) (by omega)
      have ht : ((mid : Int) + (m : Int) - 1 - (h : Int)).toNat = mid + m - 1 - h := by omega
      have q1 : (0 : Int) ≤ (h : Int) := by omega
      have q2 : (h : Int) < (n : Int) := by omega
      have q3 : (0 : Int) ≤ (mid : Int) + (m : Int) - 1 - (h : Int) := by omega
      have q4 : (mid : Int) + (m : Int) - 1 - (h : Int) < (n : Int) := by omega
      have k1 := cell_regrown x1
      have k2 := cell_regrown x2
      have hrun : ∀ (args : Array Value) (W : World), Sem.run Try.prog (callFunc f args) W = .ok (.enter f args) W := HF.out
      clear hlen hrw
      generalize hx : xs.getD h 0 = x at *
      generalize hy : xs.getD (mid + m - 1 - h) 0 = y at *
      have HX := Lib.hid hx
      have HY := Lib.hid hy
      clear hx hy
      cases hcl : decide (c y x < 0)
      · have HCL := Lib.hid (show ltOf c y x = false from hcl)
        refine wp_region_quiet_below (by kernel_rfl) (by kernel_rfl) ?_
        repeat (go_big_quiet_step ((exact Calls.regrown_of (HCALL.out _ (below_regrown _ _ _)))))
        refine wpQuiet_nil ?_
        intro _ hw'
        obtain ⟨⟨dq, osq⟩, hw''⟩ := hw'
        subst hw''
        go_wp2
        refine ⟨⟨h + 1, j, by omega, by omega, hj, by go_num, rfl, HBW.out.trans ((below_regrown _ dq osq).mono HBW.out.size), .inr ?_, HHI.out⟩, by simp [intOf]; omega⟩
        rw [show mid + m - (h + 1) = mid + m - 1 - h by omega, show h + 1 - 1 = h by omega, HX.out, HY.out]
        exact HCL.out
      · have HCL := Lib.hid (show ltOf c y x = true from hcl)
        refine wp_region_quiet_below (by kernel_rfl) (by kernel_rfl) ?_
        repeat (go_big_quiet_step ((exact Calls.regrown_of (HCALL.out _ (below_regrown _ _ _)))))
        refine wpQuiet_nil ?_
        intro _ hw'
        obtain ⟨⟨dq, osq⟩, hw''⟩ := hw'
        subst hw''
        go_wp2
        refine ⟨⟨i, h, hi, by omega, by omega, rfl, rfl, HBW.out.trans ((below_regrown _ dq osq).mono HBW.out.size), HLO.out, .inr ?_⟩, by simp [intOf]; omega⟩
        rw [HX.out, HY.out]
        exact HCL.out
    · obtain rfl : i = j := by omega
      clear hij hlt
      obtain ⟨e, he⟩ : ∃ e : Nat, e + i = mid + m := ⟨mid + m - i, by omega⟩
      have hls := HR.out.2
      have hb3 : a ≤ i := by omega
      have hb4 : i ≤ m := by omega
      have hb5 : m ≤ e := by omega
      have hb6 : e ≤ b := by omega
      have hb7 : i ≤ mid := by omega
      have hb8 : mid ≤ e := by omega
      have HSP := Lib.hid (sym_split HL.out H1.out H2.out (by omega) hb3 hb4 hb5 hb6 he (by
        rcases HLO.out with h | h
        · omega
        · right; right; rw [show e = mid + m - i by omega]; exact h) (by
        rcases HHI.out with h | h
        · omega
        · right; right; rw [show e - 1 = mid + m - 1 - i by omega]; exact h))
      have HMR := Lib.hid ((Mix.rot (xs := xs) i m e hb4 hb5 (by omega)).wide hb3 hb6)
      have hidr : i = m ∨ m = e → rot xs i m e = xs := rot_id xs i m e hb4 hb5 (by omega)
      have HID := Lib.hid hidr
      clear hls hidr
      have hend : (mid : Int) + (m : Int) - (i : Int) = (e : Int) := by omega
      have HEND := Lib.hid hend
      clear hend
      by_cases hr0 : i < m ∧ m < e
      · obtain ⟨hr01, hr02⟩ := hr0
        have g1 : (i : Int) < (m : Int) := by omega
        have g2 : (m : Int) < (e : Int) := by omega
        have hend := HEND.out
        go_wp2_with fail
        clear hend
        refine (rotate_nat base g n cp i m e (.func (.func f) #[] caps) xs _ hn (by omega) (by omega) (by omega) (HR.out.below HBW.out)).mono ?_
        rintro er w1 ⟨rfl, hr1, ho1⟩
        have HR1 := Lib.hid hr1
        have HO1 := Lib.hid ((Only.of_below (g := g) HBW.out).trans ho1)
        clear hr1 ho1
        have HOK1 := Lib.hid (mem_of_mix HMR.out HOK.out)
        by_cases hl0 : a < i ∧ i < mid
        · obtain ⟨hl01, hl02⟩ := hl0
          first
            | (exfalso; omega)
            | (skip
               have g3 : (a : Int) < (i : Int) := by omega
               have g4 : (i : Int) < (mid : Int) := by omega
               have hend := HEND.out
               go_wp2_with fail
               clear hend
               refine (HIH.out a i mid _ _ _ (rot xs i m e) _ (by omega) (by omega) (by omega) (by omega) (by omega) (by omega) (by omega) HR1.out (HC.out.later HO1.out) HOK1.out HSP.out.1 HSP.out.2.1).mono ?_
               rintro er w2 ⟨rfl, ys, hr2, hm2, hs2, ho2⟩
               have HR2 := Lib.hid hr2
               have HM2 := Lib.hid hm2
               have HS2 := Lib.hid hs2
               have HO2 := Lib.hid (HO1.out.trans ho2)
               clear hr2 hm2 hs2 ho2
               have HS3 := Lib.hid (HSP.out.2.2.1.keep fun p p1 p2 => HM2.out.out p (by omega))
               have HS4 := Lib.hid (HSP.out.2.2.2.1.keep fun p p1 p2 => HM2.out.out p (by omega))
               by_cases hx0 : mid < e ∧ e < b
               · obtain ⟨hx01, hx02⟩ := hx0
                 first
                   | (exfalso; omega)
                   | (skip
                      have g5 : (mid : Int) < (e : Int) := by omega
                      have g6 : (e : Int) < (b : Int) := by omega
                      have hend := HEND.out
                      go_wp2_with fail
                      refine (HIH.out mid e b _ _ _ ys _ (by omega) (by omega) (by omega) (by omega) (by omega) (by omega) (by omega) HR2.out (HC.out.later HO2.out) (mem_of_mix HM2.out HOK1.out) HS3.out HS4.out).mono ?_
                      rintro er w3 ⟨rfl, zs, hr3, hm3, hs3, ho3⟩
                      go_wp2
                      go_end0
                      have hm0 := HMR.out.trans ((HM2.out.wide (Nat.le_refl _) (by omega)).trans (hm3.wide (by omega) (Nat.le_refl _)))
                      refine ⟨rfl, zs, hr3, hm0, ?_, HO2.out.trans ho3⟩
                      exact rises_join (HS2.out.keep fun p p1 p2 => hm3.out p (by omega)) hs3 (cross_mix' (cross_mix HSP.out.2.2.2.2 HM2.out) hm3)
                      )
               · have g5 : ¬ ((mid : Int) < (e : Int)) ∨ ¬ ((e : Int) < (b : Int)) := by omega
                 first
                   | (exfalso; omega)
                   | (skip
                      have hend := HEND.out
                      go_wp2
                      go_end0
                      have hm0 := HMR.out.trans (HM2.out.wide (Nat.le_refl _) (by omega))
                      refine ⟨rfl, ys, HR2.out, hm0, ?_, HO2.out⟩
                      exact rises_join HS2.out (rises_one HS3.out HS4.out (by omega) hb8) (cross_mix HSP.out.2.2.2.2 HM2.out)
                      )
               )
        · obtain ⟨ys, hys⟩ : ∃ ys, ys = rot xs i m e := ⟨_, rfl⟩
          have HR2 : Hid (RowI base g n cp w1 ys) := by rw [hys]; exact HR1.out
          have HM2 : Hid (Mix a mid (rot xs i m e) ys) := by rw [hys]; exact Mix.refl _ _ _
          have HS2 : Hid (Rises (ltOf c) a mid ys) := by rw [hys]; exact rises_one HSP.out.1 HSP.out.2.1 (by omega) hb3
          have HO2 := HO1
          clear hys
          
          have HS3 := Lib.hid (HSP.out.2.2.1.keep fun p p1 p2 => HM2.out.out p (by omega))
          have HS4 := Lib.hid (HSP.out.2.2.2.1.keep fun p p1 p2 => HM2.out.out p (by omega))
          by_cases hx0 : mid < e ∧ e < b
          · obtain ⟨hx01, hx02⟩ := hx0
            first
              | (exfalso; omega)
              | (skip
                 have g5 : (mid : Int) < (e : Int) := by omega
                 have g6 : (e : Int) < (b : Int) := by omega
                 have hend := HEND.out
                 go_wp2_with fail
                 refine (HIH.out mid e b _ _ _ ys _ (by omega) (by omega) (by omega) (by omega) (by omega) (by omega) (by omega) HR2.out (HC.out.later HO2.out) (mem_of_mix HM2.out HOK1.out) HS3.out HS4.out).mono ?_
                 rintro er w3 ⟨rfl, zs, hr3, hm3, hs3, ho3⟩
                 go_wp2
                 go_end0
                 have hm0 := HMR.out.trans ((HM2.out.wide (Nat.le_refl _) (by omega)).trans (hm3.wide (by omega) (Nat.le_refl _)))
                 refine ⟨rfl, zs, hr3, hm0, ?_, HO2.out.trans ho3⟩
                 exact rises_join (HS2.out.keep fun p p1 p2 => hm3.out p (by omega)) hs3 (cross_mix' (cross_mix HSP.out.2.2.2.2 HM2.out) hm3)
                 )
          · have g5 : ¬ ((mid : Int) < (e : Int)) ∨ ¬ ((e : Int) < (b : Int)) := by omega
            first
              | (exfalso; omega)
              | (skip
                 have hend := HEND.out
                 go_wp2
                 go_end0
                 have hm0 := HMR.out.trans (HM2.out.wide (Nat.le_refl _) (by omega))
                 refine ⟨rfl, ys, HR2.out, hm0, ?_, HO2.out⟩
                 exact rises_join HS2.out (rises_one HS3.out HS4.out (by omega) hb8) (cross_mix HSP.out.2.2.2.2 HM2.out)
                 )
      · have hend := HEND.out
        have g1 : ¬ ((i : Int) < (m : Int)) ∨ ¬ ((m : Int) < (e : Int)) := by omega
        have HR1 : Hid (RowI base g n cp wr (rot xs i m e)) := by rw [HID.out (by omega)]; exact HR.out.below HBW.out
        have HO1 : Hid (Only g w wr) := .of_below HBW.out
        have HOK1 := Lib.hid (mem_of_mix HMR.out HOK.out)
        by_cases hl0 : a < i ∧ i < mid
        · obtain ⟨hl01, hl02⟩ := hl0
          first
            | (exfalso; omega)
            | (skip
               have g3 : (a : Int) < (i : Int) := by omega
               have g4 : (i : Int) < (mid : Int) := by omega
               have hend := HEND.out
               go_wp2_with fail
               clear hend
               refine (HIH.out a i mid _ _ _ (rot xs i m e) _ (by omega) (by omega) (by omega) (by omega) (by omega) (by omega) (by omega) HR1.out (HC.out.later HO1.out) HOK1.out HSP.out.1 HSP.out.2.1).mono ?_
               rintro er w2 ⟨rfl, ys, hr2, hm2, hs2, ho2⟩
               have HR2 := Lib.hid hr2
               have HM2 := Lib.hid hm2
               have HS2 := Lib.hid hs2
               have HO2 := Lib.hid (HO1.out.trans ho2)
               clear hr2 hm2 hs2 ho2
               have HS3 := Lib.hid (HSP.out.2.2.1.keep fun p p1 p2 => HM2.out.out p (by omega))
               have HS4 := Lib.hid (HSP.out.2.2.2.1.keep fun p p1 p2 => HM2.out.out p (by omega))
               by_cases hx0 : mid < e ∧ e < b
               · obtain ⟨hx01, hx02⟩ := hx0
                 first
                   | (exfalso; omega)
                   | (skip
                      have g5 : (mid : Int) < (e : Int) := by omega
                      have g6 : (e : Int) < (b : Int) := by omega
                      have hend := HEND.out
                      go_wp2_with fail
                      refine (HIH.out mid e b _ _ _ ys _ (by omega) (by omega) (by omega) (by omega) (by omega) (by omega) (by omega) HR2.out (HC.out.later HO2.out) (mem_of_mix HM2.out HOK1.out) HS3.out HS4.out).mono ?_
                      rintro er w3 ⟨rfl, zs, hr3, hm3, hs3, ho3⟩
                      go_wp2
                      go_end0
                      have hm0 := HMR.out.trans ((HM2.out.wide (Nat.le_refl _) (by omega)).trans (hm3.wide (by omega) (Nat.le_refl _)))
                      refine ⟨rfl, zs, hr3, hm0, ?_, HO2.out.trans ho3⟩
                      exact rises_join (HS2.out.keep fun p p1 p2 => hm3.out p (by omega)) hs3 (cross_mix' (cross_mix HSP.out.2.2.2.2 HM2.out) hm3)
                      )
               · have g5 : ¬ ((mid : Int) < (e : Int)) ∨ ¬ ((e : Int) < (b : Int)) := by omega
                 first
                   | (exfalso; omega)
                   | (skip
                      have hend := HEND.out
                      go_wp2
                      go_end0
                      have hm0 := HMR.out.trans (HM2.out.wide (Nat.le_refl _) (by omega))
                      refine ⟨rfl, ys, HR2.out, hm0, ?_, HO2.out⟩
                      exact rises_join HS2.out (rises_one HS3.out HS4.out (by omega) hb8) (cross_mix HSP.out.2.2.2.2 HM2.out)
                      )
               )
        · obtain ⟨ys, hys⟩ : ∃ ys, ys = rot xs i m e := ⟨_, rfl⟩
          have HR2 : Hid (RowI base g n cp wr ys) := by rw [hys]; exact HR1.out
          have HM2 : Hid (Mix a mid (rot xs i m e) ys) := by rw [hys]; exact Mix.refl _ _ _
          have HS2 : Hid (Rises (ltOf c) a mid ys) := by rw [hys]; exact rises_one HSP.out.1 HSP.out.2.1 (by omega) hb3
          have HO2 := HO1
          clear hys
          
          have HS3 := Lib.hid (HSP.out.2.2.1.keep fun p p1 p2 => HM2.out.out p (by omega))
          have HS4 := Lib.hid (HSP.out.2.2.2.1.keep fun p p1 p2 => HM2.out.out p (by omega))
          by_cases hx0 : mid < e ∧ e < b
          · obtain ⟨hx01, hx02⟩ := hx0
            first
              | (exfalso; omega)
              | (skip
                 have g5 : (mid : Int) < (e : Int) := by omega
                 have g6 : (e : Int) < (b : Int) := by omega
                 have hend := HEND.out
                 go_wp2_with fail
                 refine (HIH.out mid e b _ _ _ ys _ (by omega) (by omega) (by omega) (by omega) (by omega) (by omega) (by omega) HR2.out (HC.out.later HO2.out) (mem_of_mix HM2.out HOK1.out) HS3.out HS4.out).mono ?_
                 rintro er w3 ⟨rfl, zs, hr3, hm3, hs3, ho3⟩
                 go_wp2
                 go_end0
                 have hm0 := HMR.out.trans ((HM2.out.wide (Nat.le_refl _) (by omega)).trans (hm3.wide (by omega) (Nat.le_refl _)))
                 refine ⟨rfl, zs, hr3, hm0, ?_, HO2.out.trans ho3⟩
                 exact rises_join (HS2.out.keep fun p p1 p2 => hm3.out p (by omega)) hs3 (cross_mix' (cross_mix HSP.out.2.2.2.2 HM2.out) hm3)
                 )
          · have g5 : ¬ ((mid : Int) < (e : Int)) ∨ ¬ ((e : Int) < (b : Int)) := by omega
            first
              | (exfalso; omega)
              | (skip
                 have hend := HEND.out
                 go_wp2
                 go_end0
                 have hm0 := HMR.out.trans (HM2.out.wide (Nat.le_refl _) (by omega))
                 refine ⟨rfl, ys, HR2.out, hm0, ?_, HO2.out⟩
                 exact rises_join HS2.out (rises_one HS3.out HS4.out (by omega) hb8) (cross_mix HSP.out.2.2.2.2 HM2.out)
                 )

set_option maxHeartbeats 8000000 in
set_option maxRecDepth 100000 in
theorem symMerge_cs (base g n cp a m b : Nat) (f : FuncId) (caps : Array Value) (c : Int → Int → Int) (ok : Int → Prop) (N : Nat) (xs : List Int) (w : World) (hn : n ≤ 1048576) (hN : b - a ≤ N + 1) (ham : a + 1 < m) (hmb : m + 1 < b) (hb : b ≤ n) (hmm : m ≤ (a + b) / 2) (hR : RowI base g n cp w xs)
    (hf : Enters f) (hl : Less (ltOf c)) (hC : Cmps g w f caps c ok) (hok : ∀ x ∈ xs, ok x) (h1 : Rises (ltOf c) a m xs) (h2 : Rises (ltOf c) m b xs) (hIH : SymOk base g n cp f caps c ok N) :
    Calls Try.prog 127 #[.slice (some ⟨g, 0, none⟩) n cp, .int .i64 a, .int .i64 m, .int .i64 b, .func (.func f) #[] caps] w (Sorted base g n cp a b (ltOf c) xs w) := by
  have HR := Lib.hid hR
  have HC := Lib.hid hC
  have HL := Lib.hid hl
  have HOK := Lib.hid hok
  have HF := Lib.hid hf
  have H1 := Lib.hid h1
  have H2 := Lib.hid h2
  have HIH := Lib.hid hIH
  clear hR hC hl hok hf h1 h2 hIH
  have e1 : ((m : Int) - (a : Int) == 1) = false := by rw [beq_eq_false_iff_ne]; omega
  have e2 : ((b : Int) - (m : Int) == 1) = false := by rw [beq_eq_false_iff_ne]; omega
  have e3 : ¬ (((a : Int) + (b : Int)) / 2 < (m : Int)) := by omega
  go_enter Try.func127, Try.ntmps127
  go_wp2
  have hmid : (((a : Int) + (b : Int)) / 2) = (((a + b) / 2 : Nat) : Int) := by omega
  rw [hmid]
  have hd1 : 2 * ((a + b) / 2) ≤ a + b := by omega
  have hd2 : a + b ≤ 2 * ((a + b) / 2) + 1 := by omega
  clear e3 hmid
  generalize (a + b) / 2 = mid at *
  go_loopw [20, 21] (fun u v wr => ∃ i j : Nat, a ≤ i ∧ i ≤ j ∧ j ≤ m ∧ u = .int .i64 i ∧ v = .int .i64 j ∧ Below w.heap.size w wr ∧ (i = a ∨ ltOf c (xs.getD (mid + m - i) 0) (xs.getD (i - 1) 0) = false) ∧ (j = m ∨ ltOf c (xs.getD (mid + m - 1 - j) 0) (xs.getD j 0) = true)) (fun u v _ => (intOf v).toNat - (intOf u).toNat)
  case atStart => exact ⟨a, m, by omega, by omega, by omega, rfl, rfl, Below.refl _ _, .inl rfl, .inl rfl⟩
  case round =>
    obtain ⟨i, j, hi, hij, hj, rfl, rfl, hbw, hlo, hhi⟩ := hrel
    have HBW := Lib.hid hbw
    have HLO := Lib.hid hlo
    have HHI := Lib.hid hhi
    clear hbw hlo hhi
    by_cases hlt : i < j
    · go_wp2
      have hh : (((i : Int) + (j : Int)) / 2) = (((i + j) / 2 : Nat) : Int) := by omega
      rw [hh]
      have hb1 : i ≤ (i + j) / 2 := by omega
      have hb2 : (i + j) / 2 < j := by omega
      generalize (i + j) / 2 = h at *
      clear hh
      have hlen := HR.out.2
      have hrw := HR.out.below HBW.out
      have x1 := hrw.cell (k := mid + m - 1 - h) (by omega)
      have x2 := hrw.cell (k := h) (by omega)
      have HCALL : Hid (∀ W : World, Below wr.heap.size wr W → Calls Try.prog f (#[.int .i64 (xs.getD (mid + m - 1 - h) 0), .int .i64 (xs.getD h 0)] ++ caps) W fun e w'' => e = .returned (.int .i64 (c (xs.getD (mid + m - 1 - h) 0) (xs.getD h 0))) ∧ Below W.heap.size W w'') := by
        intro W hW
        exact HC.out _ _ (getD_ok HOK.out (by omega)) (getD_ok HOK.out (by omega)) W (.of_below (HBW.out.trans (hW.mono HBW.out.size)))
      have hw1 := IntWalk.i64_in ((mid : Int) + (m : Int) - 1 - (h : Int)) (by omega)
      have ht : ((mid : Int) + (m : Int) - 1 - (h : Int)).toNat = mid + m - 1 - h := by omega
      have q1 : (0 : Int) ≤ (h : Int) := by omega
      have q2 : (h : Int) < (n : Int) := by omega
      have q3 : (0 : Int) ≤ (mid : Int) + (m : Int) - 1 - (h : Int) := by omega
      have q4 : (mid : Int) + (m : Int) - 1 - (h : Int) < (n : Int) := by omega
      have k1 := cell_regrown x1
      have k2 := cell_regrown x2
      have hrun : ∀ (args : Array Value) (W : World), Sem.run Try.prog (callFunc f args) W = .ok (.enter f args) W := HF.out
      clear hlen hrw
      generalize hx : xs.getD h 0 = x at *
      generalize hy : xs.getD (mid + m - 1 - h) 0 = y at *
      have HX := Lib.hid hx
      have HY := Lib.hid hy
      clear hx hy
      cases hcl : decide (c y x < 0)
      · have HCL := Lib.hid (show ltOf c y x = false from hcl)
        refine wp_region_quiet_below (by kernel_rfl) (by kernel_rfl) ?_
        repeat (go_big_quiet_step ((exact Calls.regrown_of (HCALL.out _ (below_regrown _ _ _)))))
        refine wpQuiet_nil ?_
        intro _ hw'
        obtain ⟨⟨dq, osq⟩, hw''⟩ := hw'
        subst hw''
        go_wp2
        refine ⟨⟨h + 1, j, by omega, by omega, hj, by go_num, rfl, HBW.out.trans ((below_regrown _ dq osq).mono HBW.out.size), .inr ?_, HHI.out⟩, by simp [intOf]; omega⟩
        rw [show mid + m - (h + 1) = mid + m - 1 - h by omega, show h + 1 - 1 = h by omega, HX.out, HY.out]
        exact HCL.out
      · have HCL := Lib.hid (show ltOf c y x = true from hcl)
        refine wp_region_quiet_below (by kernel_rfl) (by kernel_rfl) ?_
        repeat (go_big_quiet_step ((exact Calls.regrown_of (HCALL.out _ (below_regrown _ _ _)))))
        refine wpQuiet_nil ?_
        intro _ hw'
        obtain ⟨⟨dq, osq⟩, hw''⟩ := hw'
        subst hw''
        go_wp2
        refine ⟨⟨i, h, hi, by omega, by omega, rfl, rfl, HBW.out.trans ((below_regrown _ dq osq).mono HBW.out.size), HLO.out, .inr ?_⟩, by simp [intOf]; omega⟩
        rw [HX.out, HY.out]
        exact HCL.out
    · obtain rfl : i = j := by omega
      clear hij hlt
      obtain ⟨e, he⟩ : ∃ e : Nat, e + i = mid + m := ⟨mid + m - i, by omega⟩
      have hls := HR.out.2
      have hb3 : a ≤ i := by omega
      have hb4 : i ≤ m := by omega
      have hb5 : m ≤ e := by omega
      have hb6 : e ≤ b := by omega
      have hb7 : i ≤ mid := by omega
      have hb8 : mid ≤ e := by omega
      have HSP := Lib.hid (sym_split HL.out H1.out H2.out (by omega) hb3 hb4 hb5 hb6 he (by
        rcases HLO.out with h | h
        · omega
        · right; right; rw [show e = mid + m - i by omega]; exact h) (by
        rcases HHI.out with h | h
        · omega
        · right; right; rw [show e - 1 = mid + m - 1 - i by omega]; exact h))
      have HMR := Lib.hid ((Mix.rot (xs := xs) i m e hb4 hb5 (by omega)).wide hb3 hb6)
      have hidr : i = m ∨ m = e → rot xs i m e = xs := rot_id xs i m e hb4 hb5 (by omega)
      have HID := Lib.hid hidr
      clear hls hidr
      have hend : (mid : Int) + (m : Int) - (i : Int) = (e : Int) := by omega
      have HEND := Lib.hid hend
      clear hend
      by_cases hr0 : i < m ∧ m < e
      · obtain ⟨hr01, hr02⟩ := hr0
        have g1 : (i : Int) < (m : Int) := by omega
        have g2 : (m : Int) < (e : Int) := by omega
        have hend := HEND.out
        go_wp2_with fail
        clear hend
        refine (rotate_nat base g n cp i m e (.func (.func f) #[] caps) xs _ hn (by omega) (by omega) (by omega) (HR.out.below HBW.out)).mono ?_
        rintro er w1 ⟨rfl, hr1, ho1⟩
        have HR1 := Lib.hid hr1
        have HO1 := Lib.hid ((Only.of_below (g := g) HBW.out).trans ho1)
        clear hr1 ho1
        have HOK1 := Lib.hid (mem_of_mix HMR.out HOK.out)
        by_cases hl0 : a < i ∧ i < mid
        · obtain ⟨hl01, hl02⟩ := hl0
          first
            | (exfalso; omega)
            | (skip
               have g3 : (a : Int) < (i : Int) := by omega
               have g4 : (i : Int) < (mid : Int) := by omega
               have hend := HEND.out
               go_wp2_with fail
               clear hend
               refine (HIH.out a i mid _ _ _ (rot xs i m e) _ (by omega) (by omega) (by omega) (by omega) (by omega) (by omega) (by omega) HR1.out (HC.out.later HO1.out) HOK1.out HSP.out.1 HSP.out.2.1).mono ?_
               rintro er w2 ⟨rfl, ys, hr2, hm2, hs2, ho2⟩
               have HR2 := Lib.hid hr2
               have HM2 := Lib.hid hm2
               have HS2 := Lib.hid hs2
               have HO2 := Lib.hid (HO1.out.trans ho2)
               clear hr2 hm2 hs2 ho2
               have HS3 := Lib.hid (HSP.out.2.2.1.keep fun p p1 p2 => HM2.out.out p (by omega))
               have HS4 := Lib.hid (HSP.out.2.2.2.1.keep fun p p1 p2 => HM2.out.out p (by omega))
               by_cases hx0 : mid < e ∧ e < b
               · obtain ⟨hx01, hx02⟩ := hx0
                 first
                   | (exfalso; omega)
                   | (skip
                      have g5 : (mid : Int) < (e : Int) := by omega
                      have g6 : (e : Int) < (b : Int) := by omega
                      have hend := HEND.out
                      go_wp2_with fail
                      refine (HIH.out mid e b _ _ _ ys _ (by omega) (by omega) (by omega) (by omega) (by omega) (by omega) (by omega) HR2.out (HC.out.later HO2.out) (mem_of_mix HM2.out HOK1.out) HS3.out HS4.out).mono ?_
                      rintro er w3 ⟨rfl, zs, hr3, hm3, hs3, ho3⟩
                      go_wp2
                      go_end0
                      have hm0 := HMR.out.trans ((HM2.out.wide (Nat.le_refl _) (by omega)).trans (hm3.wide (by omega) (Nat.le_refl _)))
                      refine ⟨rfl, zs, hr3, hm0, ?_, HO2.out.trans ho3⟩
                      exact rises_join (HS2.out.keep fun p p1 p2 => hm3.out p (by omega)) hs3 (cross_mix' (cross_mix HSP.out.2.2.2.2 HM2.out) hm3)
                      )
               · have g5 : ¬ ((mid : Int) < (e : Int)) ∨ ¬ ((e : Int) < (b : Int)) := by omega
                 first
                   | (exfalso; omega)
                   | (skip
                      have hend := HEND.out
                      go_wp2
                      go_end0
                      have hm0 := HMR.out.trans (HM2.out.wide (Nat.le_refl _) (by omega))
                      refine ⟨rfl, ys, HR2.out, hm0, ?_, HO2.out⟩
                      exact rises_join HS2.out (rises_one HS3.out HS4.out (by omega) hb8) (cross_mix HSP.out.2.2.2.2 HM2.out)
                      )
               )
        · obtain ⟨ys, hys⟩ : ∃ ys, ys = rot xs i m e := ⟨_, rfl⟩
          have HR2 : Hid (RowI base g n cp w1 ys) := by rw [hys]; exact HR1.out
          have HM2 : Hid (Mix a mid (rot xs i m e) ys) := by rw [hys]; exact Mix.refl _ _ _
          have HS2 : Hid (Rises (ltOf c) a mid ys) := by rw [hys]; exact rises_one HSP.out.1 HSP.out.2.1 (by omega) hb3
          have HO2 := HO1
          clear hys
          
          have HS3 := Lib.hid (HSP.out.2.2.1.keep fun p p1 p2 => HM2.out.out p (by omega))
          have HS4 := Lib.hid (HSP.out.2.2.2.1.keep fun p p1 p2 => HM2.out.out p (by omega))
          by_cases hx0 : mid < e ∧ e < b
          · obtain ⟨hx01, hx02⟩ := hx0
            first
              | (exfalso; omega)
              | (skip
                 have g5 : (mid : Int) < (e : Int) := by omega
                 have g6 : (e : Int) < (b : Int) := by omega
                 have hend := HEND.out
                 go_wp2_with fail
                 refine (HIH.out mid e b _ _ _ ys _ (by omega) (by omega) (by omega) (by omega) (by omega) (by omega) (by omega) HR2.out (HC.out.later HO2.out) (mem_of_mix HM2.out HOK1.out) HS3.out HS4.out).mono ?_
                 rintro er w3 ⟨rfl, zs, hr3, hm3, hs3, ho3⟩
                 go_wp2
                 go_end0
                 have hm0 := HMR.out.trans ((HM2.out.wide (Nat.le_refl _) (by omega)).trans (hm3.wide (by omega) (Nat.le_refl _)))
                 refine ⟨rfl, zs, hr3, hm0, ?_, HO2.out.trans ho3⟩
                 exact rises_join (HS2.out.keep fun p p1 p2 => hm3.out p (by omega)) hs3 (cross_mix' (cross_mix HSP.out.2.2.2.2 HM2.out) hm3)
                 )
          · have g5 : ¬ ((mid : Int) < (e : Int)) ∨ ¬ ((e : Int) < (b : Int)) := by omega
            first
              | (exfalso; omega)
              | (skip
                 have hend := HEND.out
                 go_wp2
                 go_end0
                 have hm0 := HMR.out.trans (HM2.out.wide (Nat.le_refl _) (by omega))
                 refine ⟨rfl, ys, HR2.out, hm0, ?_, HO2.out⟩
                 exact rises_join HS2.out (rises_one HS3.out HS4.out (by omega) hb8) (cross_mix HSP.out.2.2.2.2 HM2.out)
                 )
      · have hend := HEND.out
        have g1 : ¬ ((i : Int) < (m : Int)) ∨ ¬ ((m : Int) < (e : Int)) := by omega
        have HR1 : Hid (RowI base g n cp wr (rot xs i m e)) := by rw [HID.out (by omega)]; exact HR.out.below HBW.out
        have HO1 : Hid (Only g w wr) := .of_below HBW.out
        have HOK1 := Lib.hid (mem_of_mix HMR.out HOK.out)
        by_cases hl0 : a < i ∧ i < mid
        · obtain ⟨hl01, hl02⟩ := hl0
          first
            | (exfalso; omega)
            | (skip
               have g3 : (a : Int) < (i : Int) := by omega
               have g4 : (i : Int) < (mid : Int) := by omega
               have hend := HEND.out
               go_wp2_with fail
               clear hend
               refine (HIH.out a i mid _ _ _ (rot xs i m e) _ (by omega) (by omega) (by omega) (by omega) (by omega) (by omega) (by omega) HR1.out (HC.out.later HO1.out) HOK1.out HSP.out.1 HSP.out.2.1).mono ?_
               rintro er w2 ⟨rfl, ys, hr2, hm2, hs2, ho2⟩
               have HR2 := Lib.hid hr2
               have HM2 := Lib.hid hm2
               have HS2 := Lib.hid hs2
               have HO2 := Lib.hid (HO1.out.trans ho2)
               clear hr2 hm2 hs2 ho2
               have HS3 := Lib.hid (HSP.out.2.2.1.keep fun p p1 p2 => HM2.out.out p (by omega))
               have HS4 := Lib.hid (HSP.out.2.2.2.1.keep fun p p1 p2 => HM2.out.out p (by omega))
               by_cases hx0 : mid < e ∧ e < b
               · obtain ⟨hx01, hx02⟩ := hx0
                 first
                   | (exfalso; omega)
                   | (skip
                      have g5 : (mid : Int) < (e : Int) := by omega
                      have g6 : (e : Int) < (b : Int) := by omega
                      have hend := HEND.out
                      go_wp2_with fail
                      refine (HIH.out mid e b _ _ _ ys _ (by omega) (by omega) (by omega) (by omega) (by omega) (by omega) (by omega) HR2.out (HC.out.later HO2.out) (mem_of_mix HM2.out HOK1.out) HS3.out HS4.out).mono ?_
                      rintro er w3 ⟨rfl, zs, hr3, hm3, hs3, ho3⟩
                      go_wp2
                      go_end0
                      have hm0 := HMR.out.trans ((HM2.out.wide (Nat.le_refl _) (by omega)).trans (hm3.wide (by omega) (Nat.le_refl _)))
                      refine ⟨rfl, zs, hr3, hm0, ?_, HO2.out.trans ho3⟩
                      exact rises_join (HS2.out.keep fun p p1 p2 => hm3.out p (by omega)) hs3 (cross_mix' (cross_mix HSP.out.2.2.2.2 HM2.out) hm3)
                      )
               · have g5 : ¬ ((mid : Int) < (e : Int)) ∨ ¬ ((e : Int) < (b : Int)) := by omega
                 first
                   | (exfalso; omega)
                   | (skip
                      have hend := HEND.out
                      go_wp2
                      go_end0
                      have hm0 := HMR.out.trans (HM2.out.wide (Nat.le_refl _) (by omega))
                      refine ⟨rfl, ys, HR2.out, hm0, ?_, HO2.out⟩
                      exact rises_join HS2.out (rises_one HS3.out HS4.out (by omega) hb8) (cross_mix HSP.out.2.2.2.2 HM2.out)
                      )
               )
        · obtain ⟨ys, hys⟩ : ∃ ys, ys = rot xs i m e := ⟨_, rfl⟩
          have HR2 : Hid (RowI base g n cp wr ys) := by rw [hys]; exact HR1.out
          have HM2 : Hid (Mix a mid (rot xs i m e) ys) := by rw [hys]; exact Mix.refl _ _ _
          have HS2 : Hid (Rises (ltOf c) a mid ys) := by rw [hys]; exact rises_one HSP.out.1 HSP.out.2.1 (by omega) hb3
          have HO2 := HO1
          clear hys
          
          have HS3 := Lib.hid (HSP.out.2.2.1.keep fun p p1 p2 => HM2.out.out p (by omega))
          have HS4 := Lib.hid (HSP.out.2.2.2.1.keep fun p p1 p2 => HM2.out.out p (by omega))
          by_cases hx0 : mid < e ∧ e < b
          · obtain ⟨hx01, hx02⟩ := hx0
            first
              | (exfalso; omega)
              | (skip
                 have g5 : (mid : Int) < (e : Int) := by omega
                 have g6 : (e : Int) < (b : Int) := by omega
                 have hend := HEND.out
                 go_wp2_with fail
                 refine (HIH.out mid e b _ _ _ ys _ (by omega) (by omega) (by omega) (by omega) (by omega) (by omega) (by omega) HR2.out (HC.out.later HO2.out) (mem_of_mix HM2.out HOK1.out) HS3.out HS4.out).mono ?_
                 rintro er w3 ⟨rfl, zs, hr3, hm3, hs3, ho3⟩
                 go_wp2
                 go_end0
                 have hm0 := HMR.out.trans ((HM2.out.wide (Nat.le_refl _) (by omega)).trans (hm3.wide (by omega) (Nat.le_refl _)))
                 refine ⟨rfl, zs, hr3, hm0, ?_, HO2.out.trans ho3⟩
                 exact rises_join (HS2.out.keep fun p p1 p2 => hm3.out p (by omega)) hs3 (cross_mix' (cross_mix HSP.out.2.2.2.2 HM2.out) hm3)
                 )
          · have g5 : ¬ ((mid : Int) < (e : Int)) ∨ ¬ ((e : Int) < (b : Int)) := by omega
            first
              | (exfalso; omega)
              | (skip
                 have hend := HEND.out
                 go_wp2
                 go_end0
                 have hm0 := HMR.out.trans (HM2.out.wide (Nat.le_refl _) (by omega))
                 refine ⟨rfl, ys, HR2.out, hm0, ?_, HO2.out⟩
                 exact rises_join HS2.out (rises_one HS3.out HS4.out (by omega) hb8) (cross_mix HSP.out.2.2.2.2 HM2.out)
                 )


theorem symMerge_any (base g n cp : Nat) (f : FuncId) (caps : Array Value) (c : Int → Int → Int) (ok : Int → Prop) (hn : n ≤ 1048576) (hf : Enters f) (hl : Less (ltOf c)) : ∀ N, SymOk base g n cp f caps c ok N
  | 0 => fun a m b A M B xs w hA hM hB hN h1 h2 => by omega
  | N + 1 => by
    intro a m b A M B xs w hA hM hB hN ham hmb hbn hR hC hok h1 h2
    have ih := symMerge_any base g n cp f caps c ok hn hf hl N
    subst hA hB
    by_cases ha : m = a + 1
    · subst ha
      exact symMerge_a base g n cp a b f caps c ok xs w hn hmb hbn hR hf hl hC hok h2 M hM
    · subst hM
      by_cases hb : b = m + 1
      · exact symMerge_b base g n cp a m b f caps c ok xs w hn (by omega) hmb (by omega) hbn hR hf hl hC hok h1
      · rcases Nat.lt_or_ge ((a + b) / 2) m with hmid | hmid
        · exact symMerge_cb base g n cp a m b f caps c ok N xs w hn hN (by omega) (by omega) hbn hmid hR hf hl hC hok h1 h2 ih
        · exact symMerge_cs base g n cp a m b f caps c ok N xs w hn hN (by omega) (by omega) hbn hmid hR hf hl hC hok h1 h2 ih

end Go.Proofs.Ytmllbailfbjoeaa
