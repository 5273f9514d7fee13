/- slices.symMergeCmpFunc over numbers: the case of one number behind. -/
import Derived.Test.YtmllbailfbjoeaaSort4
namespace Go.Proofs.Ytmllbailfbjoeaa
open Go.RowKit Go.Sort

set_option maxHeartbeats 4000000 in
set_option maxRecDepth 100000 in
theorem symMerge_b (base g n cp a m b : Nat) (f : FuncId) (caps : Array Value) (c : Int → Int → Int) (ok : Int → Prop) (xs : List Int) (w : World) (hn : n ≤ 1048576) (ham : a + 1 < m) (hmb : m < b) (hmb2 : b ≤ m + 1) (hb : b ≤ n) (hR : RowI base g n cp w xs)
    (hf : Enters f) (hl : Less (ltOf c)) (hC : Cmps g w f caps c ok) (hok : ∀ x ∈ xs, ok x) (h1 : Rises (ltOf c) a m xs) :
    Calls Try.prog 127 #[.slice (some ⟨g, 0, none⟩) n cp, .int .i64 a, .int .i64 m, .int .i64 b, .func (.func f) #[] caps] w (Sorted base g n cp a b (ltOf c) xs w) := by
  have HR := Lib.hid hR
  have HC := Lib.hid hC
  have HL := Lib.hid hl
  have HOK := Lib.hid hok
  have HF := Lib.hid hf
  have H1 := Lib.hid h1
  clear hR hC hl hok hf h1
  have e1 : ((m : Int) - (a : Int) == 1) = false := by rw [beq_eq_false_iff_ne]; omega
  have e2 : ((b : Int) - (m : Int) == 1) = true := by rw [beq_iff_eq]; omega
  go_enter Try.func127, Try.ntmps127
  go_wp2
  go_loopw [14, 15] (fun u v wr => ∃ i j : Nat, a ≤ i ∧ i ≤ j ∧ j ≤ m ∧ u = .int .i64 i ∧ v = .int .i64 j ∧ Below w.heap.size w wr ∧ (∀ p, a ≤ p → p < i → ltOf c (xs.getD m 0) (xs.getD p 0) = false) ∧ (∀ p, j ≤ p → p < m → ltOf c (xs.getD m 0) (xs.getD p 0) = true)) (fun u v _ => (intOf v).toNat - (intOf u).toNat)
  case atStart => exact ⟨a, m, by omega, by omega, by omega, rfl, rfl, Below.refl _ _, fun p h1 h2 => by omega, fun p h1 h2 => by omega⟩
  case round =>
    obtain ⟨i, j, hi, hij, hj, rfl, rfl, hbw, hlo, hhi⟩ := hrel
    have HBW := Lib.hid hbw
    have HLO := Lib.hid hlo
    have HHI := Lib.hid hhi
    clear hbw hlo hhi
    by_cases hlt : i < j
    · go_wp2
      have hh : (((i : Int) + (j : Int)) / 2) = (((i + j) / 2 : Nat) : Int) := by omega
      rw [hh]
      have hb1 : i ≤ (i + j) / 2 := by omega
      have hb2 : (i + j) / 2 < j := by omega
      generalize (i + j) / 2 = h at *
      clear hh
      have hlen := HR.out.2
      have hrw := HR.out.below HBW.out
      have x1 := hrw.cell (k := m) (by omega)
      have x2 := hrw.cell (k := h) (by omega)
      have HCALL : Hid (∀ W : World, Below wr.heap.size wr W → Calls Try.prog f (#[.int .i64 (xs.getD m 0), .int .i64 (xs.getD h 0)] ++ caps) W fun e w'' => e = .returned (.int .i64 (c (xs.getD m 0) (xs.getD h 0))) ∧ Below W.heap.size W w'') := by
        intro W hW
        exact HC.out _ _ (getD_ok HOK.out (by omega)) (getD_ok HOK.out (by omega)) W (.of_below (HBW.out.trans (hW.mono HBW.out.size)))
      have HNO := Lib.hid (fun (hc : ltOf c (xs.getD m 0) (xs.getD h 0) = false) (p : Nat) (h1 : a ≤ p) (h2 : p < h + 1) => HL.out.trans _ _ _ (H1.out.le HL.out h1 (by omega : p ≤ h) (by omega)) hc)
      have HYES := Lib.hid (fun (hc : ltOf c (xs.getD m 0) (xs.getD h 0) = true) (p : Nat) (h1 : h ≤ p) (h2 : p < m) => lt_of_lt_le HL.out hc (H1.out.le HL.out (by omega) h1 h2))
      have q1 : (0 : Int) ≤ (h : Int) := by omega
      have q2 : (h : Int) < (n : Int) := by omega
      have q3 : (0 : Int) ≤ (m : Int) := by omega
      have q4 : (m : Int) < (n : Int) := by omega
      have k1 := cell_regrown x1
      have k2 := cell_regrown x2
      have hrun : ∀ (args : Array Value) (W : World), Sem.run Try.prog (callFunc f args) W = .ok (.enter f args) W := HF.out
      clear hlen hrw
      generalize xs.getD h 0 = x at *
      generalize hy : xs.getD m 0 = y at *
      have HY := Lib.hid hy
      clear hy
      cases hcl : decide (c y x < 0)
      · have HCL := Lib.hid (show ltOf c y x = false from hcl)
        refine wp_region_quiet_below (by kernel_rfl) (by kernel_rfl) ?_
        repeat (go_big_quiet_step ((exact Calls.regrown_of (HCALL.out _ (below_regrown _ _ _)))))
        refine wpQuiet_nil ?_
        intro _ hw'
        obtain ⟨⟨dq, osq⟩, hw''⟩ := hw'
        subst hw''
        go_wp2
        exact ⟨⟨h + 1, j, by omega, by omega, hj, by go_num, rfl, HBW.out.trans ((below_regrown _ dq osq).mono HBW.out.size), by rw [HY.out]; exact HNO.out HCL.out, by rw [HY.out]; exact HHI.out⟩, by simp [intOf]; omega⟩
      · have HCL := Lib.hid (show ltOf c y x = true from hcl)
        refine wp_region_quiet_below (by kernel_rfl) (by kernel_rfl) ?_
        repeat (go_big_quiet_step ((exact Calls.regrown_of (HCALL.out _ (below_regrown _ _ _)))))
        refine wpQuiet_nil ?_
        intro _ hw'
        obtain ⟨⟨dq, osq⟩, hw''⟩ := hw'
        subst hw''
        go_wp2
        exact ⟨⟨i, h, hi, by omega, by omega, rfl, rfl, HBW.out.trans ((below_regrown _ dq osq).mono HBW.out.size), by rw [HY.out]; exact HLO.out, by rw [HY.out]; exact HYES.out HCL.out⟩, by simp [intOf]; omega⟩
    · obtain rfl : i = j := by omega
      go_wp2
      obtain ⟨wo, rfl⟩ : ∃ wo : World, wo = wr := ⟨_, rfl⟩
      go_loopw [17] (fun u wi => ∃ (k : Nat) (ys : List Int), i ≤ k ∧ k ≤ m ∧ u = .int .i64 k ∧ RowI base g n cp wi ys ∧ Mix a b xs ys ∧ RisesBut (ltOf c) a m k ys ∧ (∀ p, p < k → ys.getD p 0 = xs.getD p 0) ∧ ys.getD k 0 = xs.getD m 0 ∧ Only g w wi) (fun u _ => (intOf u).toNat - i)
      case atStart => exact ⟨m, xs, by omega, by omega, rfl, HR.out.below HBW.out, Mix.refl _ _ _, rises_but_start H1.out, fun _ _ => rfl, rfl, .of_below HBW.out⟩
      case round =>
        obtain ⟨k, ys, hk1, hk2, rfl, hr, hm, hs, hlow, hat, ho⟩ := hrel
        have HRZ := Lib.hid hr
        have HMZ := Lib.hid hm
        have HSZ := Lib.hid hs
        have HOZ := Lib.hid ho
        have HLW := Lib.hid hlow
        have HAT := Lib.hid hat
        clear hr hm hs ho hlow hat
        by_cases hki : i < k
        · have x1 := HRZ.out.cell (k := k) (by omega)
          have x2 := HRZ.out.cell (k := k - 1) (by omega)
          have f1 := HRZ.out.frozen (k := k) (by omega)
          have hlen := HRZ.out.2
          have hl0 : ltOf c (ys.getD k 0) (ys.getD (k - 1) 0) = true := by
            rw [HAT.out, HLW.out (k - 1) (by omega)]; exact HHI.out (k - 1) (by omega) (by omega)
          have HSTEP := Lib.hid (rises_but_step HL.out HSZ.out (by omega) hk2 (by rw [hlen]; omega) hl0)
          have HME := Lib.hid (HMZ.out.trans (Mix.exch (a := a) (b := b) k (k - 1) (by omega) (by omega) (by omega)))
          have HEX := Lib.hid (fun p => exch_at ys k (k - 1) p (by rw [hlen]; omega) (by rw [hlen]; omega))
          generalize hx : ys.getD k 0 = x at *
          generalize hy : ys.getD (k - 1) 0 = y at *
          have hy1 := (HRZ.out.set_ (k := k) (by omega) y).cell (k := k - 1) (by omega)
          have hy2 := (HRZ.out.set_ (k := k) (by omega) y).frozen (k := k - 1) (by omega)
          have HE := Lib.hid ((HRZ.out.set_ (k := k) (by omega) y).set_ (k := k - 1) (by omega) x)
          have HOE := Lib.hid ((HOZ.out.set_ k (.int .i64 y)).set_ (k - 1) (.int .i64 x))
          have HX := Lib.hid hx
          have HY := Lib.hid hy
          have hgl := HRZ.out.lt (by omega)
          generalize (ys.set k y).getD (k - 1) 0 = v' at hy1
          have hw1 := IntWalk.i64_in ((k : Int) - 1) (by omega)
          have ht : ((k : Int) - 1).toNat = k - 1 := by omega
          have q1 : (0 : Int) ≤ (k : Int) := by omega
          have q2 : (k : Int) < (n : Int) := by omega
          have q3 : (0 : Int) ≤ (k : Int) - 1 := by omega
          have q4 : (k : Int) - 1 < (n : Int) := by omega
          have q5 : (1 : Int) ≤ (k : Int) := by omega
          clear hx hy hlen hl0
          go_wp2
          go_region
          generalize (wr.setCell ⟨g, k, none⟩ (.int .i64 y)).setCell ⟨g, k - 1, none⟩ (.int .i64 x) = w3 at *
          clear hy1 hy2 x1 x2 f1
          go_wp2
          have hexx : (ys.set k y).set (k - 1) x = exch ys k (k - 1) := by unfold exch; rw [HX.out, HY.out]
          have hee := HE.out
          rw [hexx] at hee
          refine ⟨⟨k - 1, exch ys k (k - 1), by omega, by omega, by go_num, hee.drew, HME.out, HSTEP.out, ?_, ?_, HOE.out.drew⟩, by simp [intOf]; omega⟩
          · intro p hp
            rw [HEX.out p, if_neg (by omega), if_neg (by omega)]
            exact HLW.out p (by omega)
          · rw [HEX.out (k - 1), if_pos rfl]
            exact HAT.out
        · go_wp2
          refine bodyPost_ret (results_none' rfl _ _ _) rfl ?_
          obtain rfl : k = i := by omega
          have hend := rises_but_end HL.out HSZ.out hi hk2 (by
            by_cases hia : k = a
            · exact .inl hia
            · right
              rw [HAT.out, HLW.out (k - 1) (by omega)]
              exact HLO.out (k - 1) (by omega) (by omega))
          refine ⟨rfl, ys, HRZ.out, HMZ.out, ?_, HOZ.out⟩
          intro p q p1 p2 p3
          exact hend p q p1 p2 (by omega)

end Go.Proofs.Ytmllbailfbjoeaa
