/- slices.symMergeCmpFunc over numbers: the case of one number ahead. -/
import Derived.Test.YtmllbailfbjoeaaSort3
namespace Go.Proofs.Ytmllbailfbjoeaa
open Go.RowKit Go.Sort

theorem lt_of_le_lt {lt : Int → Int → Bool} (hl : Less lt) {x y z : Int} (h1 : lt y x = false) (h2 : lt y z = true) : lt x z = true := by
  cases h : lt x z with
  | true => rfl
  | false => have := hl.trans z x y h h1; rw [h2] at this; cases this
theorem lt_of_lt_le {lt : Int → Int → Bool} (hl : Less lt) {x y z : Int} (h1 : lt x y = true) (h2 : lt z y = false) : lt x z = true := by
  cases h : lt x z with
  | true => rfl
  | false => have := hl.trans y z x h2 h; rw [h1] at this; cases this

theorem moves_start {lt : Int → Int → Bool} {a i b : Nat} {xs : List Int} (h2 : Rises lt (a + 1) b xs) (hlo : ∀ p, a + 1 ≤ p → p < i → lt (xs.getD p 0) (xs.getD a 0) = true) (hhi : ∀ p, i ≤ p → p < b → lt (xs.getD p 0) (xs.getD a 0) = false) : Moves lt a i b a xs :=
  ⟨fun p q h1 h3 h4 h5 => h2 p q (by omega) h3 h4, fun q h1 h3 => hlo q (by omega) h3, fun q h1 h3 => hhi q h1 h3⟩

theorem results_none' {fn : Func} (h : fn.results = #[]) (tmps : Array Value) (P : Program) (w : World) : (results fn tmps).run P w = .ok (.tuple #[]) w := by
  simp [results, h]

set_option maxHeartbeats 4000000 in
set_option maxRecDepth 100000 in
theorem symMerge_a (base g n cp a b : Nat) (f : FuncId) (caps : Array Value) (c : Int → Int → Int) (ok : Int → Prop) (xs : List Int) (w : World) (hn : n ≤ 1048576) (hab : a + 1 < b) (hb : b ≤ n) (hR : RowI base g n cp w xs)
    (hf : Enters f) (hl : Less (ltOf c)) (hC : Cmps g w f caps c ok) (hok : ∀ x ∈ xs, ok x) (h2 : Rises (ltOf c) (a + 1) b xs) (M : Int) (hM : M = ((a + 1 : Nat) : Int)) :
    Calls Try.prog 127 #[.slice (some ⟨g, 0, none⟩) n cp, .int .i64 a, .int .i64 M, .int .i64 b, .func (.func f) #[] caps] w (Sorted base g n cp a b (ltOf c) xs w) := by
  have HR := Lib.hid hR
  have HC := Lib.hid hC
  have HL := Lib.hid hl
  have HOK := Lib.hid hok
  have HF := Lib.hid hf
  have H2 := Lib.hid h2
  subst hM
  generalize hm : a + 1 = m at *
  have hma : a < m := by omega
  have hma2 : m ≤ a + 1 := by omega
  have HM := Lib.hid hm
  clear hR hC hl hok hf h2 hm
  have h1 : ((m : Int) - (a : Int) == 1) = true := by rw [beq_iff_eq]; omega
  go_enter Try.func127, Try.ntmps127
  go_wp2
  go_loopw [10, 11] (fun u v wr => ∃ i j : Nat, m ≤ i ∧ i ≤ j ∧ j ≤ b ∧ u = .int .i64 i ∧ v = .int .i64 j ∧ Below w.heap.size w wr ∧ (∀ p, m ≤ p → p < i → ltOf c (xs.getD p 0) (xs.getD a 0) = true) ∧ (∀ p, j ≤ p → p < b → ltOf c (xs.getD p 0) (xs.getD a 0) = false)) (fun u v _ => (intOf v).toNat - (intOf u).toNat)
  case atStart => exact ⟨m, b, by omega, by omega, by omega, rfl, rfl, Below.refl _ _, fun p h1 h2 => by omega, fun p h1 h2 => by omega⟩
  case round =>
    obtain ⟨i, j, hi, hij, hj, rfl, rfl, hbw, hlo, hhi⟩ := hrel
    have HBW := Lib.hid hbw
    have HLO := Lib.hid hlo
    have HHI := Lib.hid hhi
    clear hbw hlo hhi
    by_cases hlt : i < j
    · go_wp2
      have hh : (((i : Int) + (j : Int)) / 2) = (((i + j) / 2 : Nat) : Int) := by omega
      rw [hh]
      have hb1 : i ≤ (i + j) / 2 := by omega
      have hb2 : (i + j) / 2 < j := by omega
      generalize (i + j) / 2 = h at *
      clear hh
      have hlen := HR.out.2
      have hrw := HR.out.below HBW.out
      have x1 := hrw.cell (k := h) (by omega)
      have x2 := hrw.cell (k := a) (by omega)
      have HCALL : Hid (∀ W : World, Below wr.heap.size wr W → Calls Try.prog f (#[.int .i64 (xs.getD h 0), .int .i64 (xs.getD a 0)] ++ caps) W fun e w'' => e = .returned (.int .i64 (c (xs.getD h 0) (xs.getD a 0))) ∧ Below W.heap.size W w'') := by
        intro W hW
        exact HC.out _ _ (getD_ok HOK.out (by omega)) (getD_ok HOK.out (by omega)) W (.of_below (HBW.out.trans (hW.mono HBW.out.size)))
      have HYES := Lib.hid (fun (hc : ltOf c (xs.getD h 0) (xs.getD a 0) = true) (p : Nat) (h1 : m ≤ p) (h2 : p < h + 1) => lt_of_le_lt HL.out (H2.out.le HL.out h1 (by omega) (by omega)) hc)
      have HNO := Lib.hid (fun (hc : ltOf c (xs.getD h 0) (xs.getD a 0) = false) (p : Nat) (h1 : h ≤ p) (h2 : p < b) => HL.out.trans _ _ _ hc (H2.out.le HL.out (by omega) h1 h2))
      have q1 : (0 : Int) ≤ (h : Int) := by omega
      have q2 : (h : Int) < (n : Int) := by omega
      have q3 : (0 : Int) ≤ (a : Int) := by omega
      have q4 : (a : Int) < (n : Int) := by omega
      have k1 := cell_regrown x1
      have k2 := cell_regrown x2
      have hrun : ∀ (args : Array Value) (W : World), Sem.run Try.prog (callFunc f args) W = .ok (.enter f args) W := HF.out
      clear hlen hrw
      generalize xs.getD h 0 = x at *
      generalize hy : xs.getD a 0 = y at *
      have HY := Lib.hid hy
      clear hy
      cases hcl : decide (c x y < 0)
      · have HCL := Lib.hid (show ltOf c x y = false from hcl)
        refine wp_region_quiet_below (by kernel_rfl) (by kernel_rfl) ?_
        repeat (go_big_quiet_step ((exact Calls.regrown_of (HCALL.out _ (below_regrown _ _ _)))))
        refine wpQuiet_nil ?_
        intro _ hw'
        obtain ⟨⟨dq, osq⟩, hw''⟩ := hw'
        subst hw''
        go_wp2
        exact ⟨⟨i, h, hi, by omega, by omega, rfl, rfl, HBW.out.trans ((below_regrown _ dq osq).mono HBW.out.size), by rw [HY.out]; exact HLO.out, by rw [HY.out]; exact HNO.out HCL.out⟩, by simp [intOf]; omega⟩
      · have HCL := Lib.hid (show ltOf c x y = true from hcl)
        refine wp_region_quiet_below (by kernel_rfl) (by kernel_rfl) ?_
        repeat (go_big_quiet_step ((exact Calls.regrown_of (HCALL.out _ (below_regrown _ _ _)))))
        refine wpQuiet_nil ?_
        intro _ hw'
        obtain ⟨⟨dq, osq⟩, hw''⟩ := hw'
        subst hw''
        go_wp2
        exact ⟨⟨h + 1, j, by omega, by omega, hj, by go_num, rfl, HBW.out.trans ((below_regrown _ dq osq).mono HBW.out.size), by rw [HY.out]; exact HYES.out HCL.out, by rw [HY.out]; exact HHI.out⟩, by simp [intOf]; omega⟩
    · obtain rfl : i = j := by omega
      have HST : Hid (Moves (ltOf c) a i b a xs) := by
        have h2 := H2.out
        have hlo := HLO.out
        rw [← HM.out] at h2 hlo
        exact moves_start h2 hlo HHI.out
      go_wp2
      obtain ⟨wo, rfl⟩ : ∃ wo : World, wo = wr := ⟨_, rfl⟩
      go_loopw [13] (fun u wi => ∃ (k : Nat) (ys : List Int), a ≤ k ∧ k + 1 ≤ i ∧ u = .int .i64 k ∧ RowI base g n cp wi ys ∧ Mix a b xs ys ∧ Moves (ltOf c) a i b k ys ∧ Only g w wi) (fun u _ => i - (intOf u).toNat)
      case atStart => exact ⟨a, xs, by omega, by omega, rfl, HR.out.below HBW.out, Mix.refl _ _ _, HST.out, .of_below HBW.out⟩
      case round =>
        obtain ⟨k, ys, hk1, hk2, rfl, hr, hm, hs, ho⟩ := hrel
        have HRZ := Lib.hid hr
        have HMZ := Lib.hid hm
        have HSZ := Lib.hid hs
        have HOZ := Lib.hid ho
        clear hr hm hs ho
        by_cases hki : k + 1 < i
        · have x1 := HRZ.out.cell (k := k) (by omega)
          have x2 := HRZ.out.cell (k := k + 1) (by omega)
          have f1 := HRZ.out.frozen (k := k) (by omega)
          have hlen := HRZ.out.2
          have HSTEP := Lib.hid (HSZ.out.step HL.out hk1 hki hj (by rw [hlen]; omega))
          have HME := Lib.hid (HMZ.out.trans (Mix.exch (a := a) (b := b) k (k + 1) (by omega) (by omega) (by omega)))
          generalize hx : ys.getD k 0 = x at *
          generalize hy : ys.getD (k + 1) 0 = y at *
          have hy1 := (HRZ.out.set_ (k := k) (by omega) y).cell (k := k + 1) (by omega)
          have hy2 := (HRZ.out.set_ (k := k) (by omega) y).frozen (k := k + 1) (by omega)
          have HE := Lib.hid ((HRZ.out.set_ (k := k) (by omega) y).set_ (k := k + 1) (by omega) x)
          have HOE := Lib.hid ((HOZ.out.set_ k (.int .i64 y)).set_ (k + 1) (.int .i64 x))
          have HX := Lib.hid hx
          have HY := Lib.hid hy
          have hgl := HRZ.out.lt (by omega)
          generalize (ys.set k y).getD (k + 1) 0 = v' at hy1
          have ht : ((k : Int) + 1).toNat = k + 1 := by omega
          have q1 : (0 : Int) ≤ (k : Int) := by omega
          have q2 : (k : Int) < (n : Int) := by omega
          have q3 : (0 : Int) ≤ (k : Int) + 1 := by omega
          have q4 : (k : Int) + 1 < (n : Int) := by omega
          have q5 : (k : Int) < (i : Int) - 1 := by omega
          clear hx hy hlen
          go_wp2
          go_region
          generalize (wr.setCell ⟨g, k, none⟩ (.int .i64 y)).setCell ⟨g, k + 1, none⟩ (.int .i64 x) = w3 at *
          clear hy1 hy2 x1 x2 f1
          go_wp2
          refine ⟨⟨k + 1, _, by omega, by omega, by go_num, HE.out.drew, ?_, ?_, HOE.out.drew⟩, by simp [intOf]; omega⟩
          · have h := HME.out
            unfold exch at h
            rwa [HX.out, HY.out] at h
          · have h := HSTEP.out
            unfold exch at h
            rwa [HX.out, HY.out] at h
        · have q5 : ¬ ((k : Int) < (i : Int) - 1) := by omega
          go_wp2
          refine bodyPost_ret (results_none' rfl _ _ _) rfl ?_
          exact ⟨rfl, ys, HRZ.out, HMZ.out, HSZ.out.done (by omega), HOZ.out⟩

end Go.Proofs.Ytmllbailfbjoeaa
