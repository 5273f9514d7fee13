/- Plain: those that wait for a channel wait no more, in whatever order they are taken. -/
import Derived.Test.YtieglgahfeecbaaGreatDoorP1
import Derived.Test.YtieglgahfeecbaaGreatDoorP12
set_option maxHeartbeats 64000000
set_option maxRecDepth 100000
namespace Go.Proofs.YtieglgahfeecbaaGreatDoor
open Go.RowKit Go.Sort
attribute [local go_sem ↓] Go.wp_at_zero Go.wp_at_succ
theorem symMerge_b (base g n cp a m b : Nat) (f : FuncId) (caps : Array Value) (c : Int -> Int -> Int) (ok : Int -> Prop) (xs : List Int) (w : World) (hn : n <= 1048576) (ham : a + 1 < m) (hmb : m < b) (hmb2 : b <= m + 1) (hb : b <= n) (hR : RowI base g n cp w xs)
  (hf : Enters f) (hl : Less (ltOf c)) (hC : Cmps g w f caps c ok) (hok : ∀ x ∈ xs, ok x) (h1 : Rises (ltOf c) a m xs) :
  Calls Tryz.prog 230 #[.slice (some ⟨g, 0, none⟩) n cp, .int .i64 a, .int .i64 m, .int .i64 b, .func (.func f) #[] caps] w (Sorted base g n cp a b (ltOf c) xs w) := by
 have HR := Zd hR
 have HC := Zd hC
 have HL := Zd hl
 have HOK := Zd hok
 have HF := Zd hf
 have H1 := Zd h1
 clear hR hC hl hok hf h1
 have e1 : ((m : Int) - (a : Int) == 1) = false := by rw [beq_eq_false_iff_ne]; omega
 have e2 : ((b : Int) - (m : Int) == 1) = true := by rw [beq_iff_eq]; omega
 go_enter Tryz.func230, Tryz.ntmps230
 go_wp2
 go_loopw [14, 15] (fun u v wr => ∃ i j : Nat, a <= i /\ i <= j /\ j <= m /\ u = .int .i64 i /\ v = .int .i64 j /\ Below w.heap.size w wr /\ (∀ p, a <= p -> p < i -> ltOf c (xs.getD m 0) (xs.getD p 0) = false) /\ (∀ p, j <= p -> p < m -> ltOf c (xs.getD m 0) (xs.getD p 0) = true)) (fun u v _ => (intOf v).toNat - (intOf u).toNat)
 case atStart => exact ⟨a, m, by omega, by omega, by omega, rfl, rfl, Below.refl _ _, fun p h1 h2 => by omega, fun p h1 h2 => by omega⟩
 case round =>
  obtain ⟨i, j, hi, hij, hj, rfl, rfl, hbw, hlo, hhi⟩ := hrel
  have HBW := Zd hbw
  have HLO := Zd hlo
  have HHI := Zd hhi
  clear hbw hlo hhi
  by_cases hlt : i < j
  . go_wp2
    have hh : (((i : Int) + (j : Int)) / 2) = (((i + j) / 2 : Nat) : Int) := by omega
    rw [hh]
    have hb1 : i <= (i + j) / 2 := by omega
    have hb2 : (i + j) / 2 < j := by omega
    generalize (i + j) / 2 = h at *
    clear hh
    have hlen := HR.out.2
    have hrw := HR.out.below HBW.out
    have x1 := hrw.cell (k := m) (by omega)
    have x2 := hrw.cell (k := h) (by omega)
    have HCALL : Hid (∀ W : World, Below wr.heap.size wr W -> Calls Tryz.prog f (#[.int .i64 (xs.getD m 0), .int .i64 (xs.getD h 0)] ++ caps) W fun e w'' => e = .returned (.int .i64 (c (xs.getD m 0) (xs.getD h 0))) /\ Below W.heap.size W w'') := by
     intro W hW
     exact HC.out _ _ (getD_ok HOK.out (by omega)) (getD_ok HOK.out (by omega)) W (.of_below (btr HBW.out hW))
    have HNO := Zd (fun (hc : ltOf c (xs.getD m 0) (xs.getD h 0) = false) (p : Nat) (h1 : a <= p) (h2 : p < h + 1) => HL.out.trans _ _ _ (H1.out.le HL.out h1 (by omega : p <= h) (by omega)) hc)
    have HYES := Zd (fun (hc : ltOf c (xs.getD m 0) (xs.getD h 0) = true) (p : Nat) (h1 : h <= p) (h2 : p < m) => lt_of_lt_le HL.out hc (H1.out.le HL.out (by omega) h1 h2))
    have q1 : (0 : Int) <= (h : Int) := by omega
    have q2 : (h : Int) < (n : Int) := by omega
    have q3 : (0 : Int) <= (m : Int) := by omega
    have q4 : (m : Int) < (n : Int) := by omega
    have k1 := cell_regrown x1
    have k2 := cell_regrown x2
    have hrun : ∀ (args : Array Value) (W : World), Sem.run Tryz.prog (callFunc f args) W = .ok (.enter f args) W := HF.out
    clear hlen hrw
    generalize xs.getD h 0 = x at *
    generalize hy : xs.getD m 0 = y at *
    have HY := Zd hy
    clear hy
    cases hcl : decide (c y x < 0)
    . have HCL := Zd (show ltOf c y x = false from hcl)
      refine wp_region_quiet_below (by kernel_rfl) (by kernel_rfl) ?_
      repeat (go_big_quiet_step ((exact Calls.regrown_of (HCALL.out _ (below_regrown _ _ _)))))
      refine wpQuiet_nil ?_
      intro _ hw'
      obtain ⟨⟨dq, osq⟩, hw''⟩ := hw'
      subst hw''
      go_wp2
      exact ⟨⟨h + 1, j, by omega, by omega, hj, by go_num, rfl, HBW.out.trans ((below_regrown _ dq osq).mono HBW.out.size), by rw [HY.out]; exact HNO.out HCL.out, by rw [HY.out]; exact HHI.out⟩, by simp [intOf]; omega⟩
    . have HCL := Zd (show ltOf c y x = true from hcl)
      refine wp_region_quiet_below (by kernel_rfl) (by kernel_rfl) ?_
      repeat (go_big_quiet_step ((exact Calls.regrown_of (HCALL.out _ (below_regrown _ _ _)))))
      refine wpQuiet_nil ?_
      intro _ hw'
      obtain ⟨⟨dq, osq⟩, hw''⟩ := hw'
      subst hw''
      go_wp2
      exact ⟨⟨i, h, hi, by omega, by omega, rfl, rfl, HBW.out.trans ((below_regrown _ dq osq).mono HBW.out.size), by rw [HY.out]; exact HLO.out, by rw [HY.out]; exact HYES.out HCL.out⟩, by simp [intOf]; omega⟩
  . obtain rfl : i = j := by omega
    go_wp2
    obtain ⟨wo, rfl⟩ : ∃ wo : World, wo = wr := ⟨_, rfl⟩
    go_loopw [17] (fun u wi => ∃ (k : Nat) (ys : List Int), i <= k /\ k <= m /\ u = .int .i64 k /\ RowI base g n cp wi ys /\ Mix a b xs ys /\ RisesBut (ltOf c) a m k ys /\ (∀ p, p < k -> ys.getD p 0 = xs.getD p 0) /\ ys.getD k 0 = xs.getD m 0 /\ Only g w wi) (fun u _ => (intOf u).toNat - i)
    case atStart => exact ⟨m, xs, by omega, by omega, rfl, HR.out.below HBW.out, Mix.refl _ _ _, rises_but_start H1.out, fun _ _ => rfl, rfl, .of_below HBW.out⟩
    case round =>
     obtain ⟨k, ys, hk1, hk2, rfl, hr, hm, hs, hlow, hat, ho⟩ := hrel
     have HRZ := Zd hr
     have HMZ := Zd hm
     have HSZ := Zd hs
     have HOZ := Zd ho
     have HLW := Zd hlow
     have HAT := Zd hat
     clear hr hm hs ho hlow hat
     by_cases hki : i < k
     . have x1 := HRZ.out.cell (k := k) (by omega)
       have x2 := HRZ.out.cell (k := k - 1) (by omega)
       have f1 := HRZ.out.frozen (k := k) (by omega)
       have hlen := HRZ.out.2
       have hl0 : ltOf c (ys.getD k 0) (ys.getD (k - 1) 0) = true := by
        rw [HAT.out, HLW.out (k - 1) (by omega)]; exact HHI.out (k - 1) (by omega) (by omega)
       have HSTEP := Zd (rises_but_step HL.out HSZ.out (by omega) hk2 (by rw [hlen]; omega) hl0)
       have HME := Zd (HMZ.out.trans (Mix.exch (a := a) (b := b) k (k - 1) (by omega) (by omega) (by omega)))
       have HEX := Zd (fun p => exch_at ys k (k - 1) p (by rw [hlen]; omega) (by rw [hlen]; omega))
       generalize hx : ys.getD k 0 = x at *
       generalize hy : ys.getD (k - 1) 0 = y at *
       have hy1 := (HRZ.out.set_ (k := k) (by omega) y).cell (k := k - 1) (by omega)
       have hy2 := (HRZ.out.set_ (k := k) (by omega) y).frozen (k := k - 1) (by omega)
       have HE := Zd ((HRZ.out.set_ (k := k) (by omega) y).set_ (k := k - 1) (by omega) x)
       have HOE := Zd ((HOZ.out.set_ k (.int .i64 y)).set_ (k - 1) (.int .i64 x))
       have HX := Zd hx
       have HY := Zd hy
       have hgl := HRZ.out.lt (by omega)
       generalize (ys.set k y).getD (k - 1) 0 = v' at hy1
       have hw1 := IntWalk.i64_in ((k : Int) - 1) (by omega)
       have ht : ((k : Int) - 1).toNat = k - 1 := by omega
       have q1 : (0 : Int) <= (k : Int) := by omega
       have q2 : (k : Int) < (n : Int) := by omega
       have q3 : (0 : Int) <= (k : Int) - 1 := by omega
       have q4 : (k : Int) - 1 < (n : Int) := by omega
       have q5 : (1 : Int) <= (k : Int) := by omega
       clear hx hy hlen hl0
       go_wp2
       go_region
       generalize (wr.setCell ⟨g, k, none⟩ (.int .i64 y)).setCell ⟨g, k - 1, none⟩ (.int .i64 x) = w3 at *
       clear hy1 hy2 x1 x2 f1
       go_wp2
       have hexx : (ys.set k y).set (k - 1) x = exch ys k (k - 1) := by unfold exch; rw [HX.out, HY.out]
       have hee := HE.out
       rw [hexx] at hee
       refine ⟨⟨k - 1, exch ys k (k - 1), by omega, by omega, by go_num, hee.drew, HME.out, HSTEP.out, ?_, ?_, HOE.out.drew⟩, by simp [intOf]; omega⟩
       . intro p hp
         rw [HEX.out p, if_neg (by omega), if_neg (by omega)]
         exact HLW.out p (by omega)
       . rw [HEX.out (k - 1), if_pos rfl]
         exact HAT.out
     . go_wp2
       refine bodyPost_ret (results_none' rfl _ _ _) rfl ?_
       obtain rfl : k = i := by omega
       have hend := rises_but_end HL.out HSZ.out hi hk2 (by
        by_cases hia : k = a
        . exact .inl hia
        . right
          rw [HAT.out, HLW.out (k - 1) (by omega)]
          exact HLO.out (k - 1) (by omega) (by omega))
       refine ⟨rfl, ys, HRZ.out, HMZ.out, ?_, HOZ.out⟩
       intro p q p1 p2 p3
       exact hend p q p1 p2 (by omega)
theorem rot_id (xs : List Int) (s m e : Nat) (h1 : s <= m) (h2 : m <= e) (h3 : e <= xs.length) (h : s = m ∨ m = e) : rot xs s m e = xs := by
 apply List.ext_getElem?
 intro x
 rw [rot_get xs s m e x h1 h2 h3]
 repeat' split
 all_goals first | rfl | omega | (congr 1; omega)
def SymOk (base g n cp : Nat) (f : FuncId) (caps : Array Value) (c : Int -> Int -> Int) (ok : Int -> Prop) (N : Nat) : Prop :=
 ∀ (a m b : Nat) (A M B : Int) (xs : List Int) (w : World), A = a -> M = m -> B = b -> b - a <= N -> a < m -> m < b -> b <= n -> RowI base g n cp w xs -> Cmps g w f caps c ok -> (∀ x ∈ xs, ok x) -> Rises (ltOf c) a m xs -> Rises (ltOf c) m b xs ->
  Calls Tryz.prog 230 #[.slice (some ⟨g, 0, none⟩) n cp, .int .i64 A, .int .i64 M, .int .i64 B, .func (.func f) #[] caps] w (Sorted base g n cp a b (ltOf c) xs w)
theorem rises_one {lt : Int -> Int -> Bool} {a s mid : Nat} {ys : List Int} (h1 : Rises lt a s ys) (h2 : Rises lt s mid ys) (h : s <= a ∨ mid <= s) (ha : a <= s) : Rises lt a mid ys := by
 intro i j i1 i2 i3
 rcases h with h | h
 . exact h2 i j (by omega) i2 i3
 . exact h1 i j i1 i2 (by omega)
theorem symMerge_cb (base g n cp a m b : Nat) (f : FuncId) (caps : Array Value) (c : Int -> Int -> Int) (ok : Int -> Prop) (N : Nat) (xs : List Int) (w : World) (hn : n <= 1048576) (hN : b - a <= N + 1) (ham : a + 1 < m) (hmb : m + 1 < b) (hb : b <= n) (hmm : (a + b) / 2 < m) (hR : RowI base g n cp w xs)
  (hf : Enters f) (hl : Less (ltOf c)) (hC : Cmps g w f caps c ok) (hok : ∀ x ∈ xs, ok x) (h1 : Rises (ltOf c) a m xs) (h2 : Rises (ltOf c) m b xs) (hIH : SymOk base g n cp f caps c ok N) :
  Calls Tryz.prog 230 #[.slice (some ⟨g, 0, none⟩) n cp, .int .i64 a, .int .i64 m, .int .i64 b, .func (.func f) #[] caps] w (Sorted base g n cp a b (ltOf c) xs w) := by
 have HR := Zd hR
 have HC := Zd hC
 have HL := Zd hl
 have HOK := Zd hok
 have HF := Zd hf
 have H1 := Zd h1
 have H2 := Zd h2
 have HIH := Zd hIH
 clear hR hC hl hok hf h1 h2 hIH
 have e1 : ((m : Int) - (a : Int) == 1) = false := by rw [beq_eq_false_iff_ne]; omega
 have e2 : ((b : Int) - (m : Int) == 1) = false := by rw [beq_eq_false_iff_ne]; omega
 have e3 : ((a : Int) + (b : Int)) / 2 < (m : Int) := by omega
 go_enter Tryz.func230, Tryz.ntmps230
 go_wp2
 have hmid : (((a : Int) + (b : Int)) / 2) = (((a + b) / 2 : Nat) : Int) := by omega
 rw [hmid]
 have hd1 : 2 * ((a + b) / 2) <= a + b := by omega
 have hd2 : a + b <= 2 * ((a + b) / 2) + 1 := by omega
 clear e3 hmid
 generalize (a + b) / 2 = mid at *
 go_loopw [20, 21] (fun u v wr => ∃ i j : Nat, (mid + m - b) <= i /\ i <= j /\ j <= mid /\ u = .int .i64 i /\ v = .int .i64 j /\ Below w.heap.size w wr /\ (i = (mid + m - b) ∨ ltOf c (xs.getD (mid + m - i) 0) (xs.getD (i - 1) 0) = false) /\ (j = mid ∨ ltOf c (xs.getD (mid + m - 1 - j) 0) (xs.getD j 0) = true)) (fun u v _ => (intOf v).toNat - (intOf u).toNat)
 case atStart => exact ⟨(mid + m - b), mid, by omega, by omega, by omega, by go_num, by go_num, Below.refl _ _, .inl rfl, .inl rfl⟩
 case round =>
  obtain ⟨i, j, hi, hij, hj, rfl, rfl, hbw, hlo, hhi⟩ := hrel
  have HBW := Zd hbw
  have HLO := Zd hlo
  have HHI := Zd hhi
  clear hbw hlo hhi
  by_cases hlt : i < j
  . go_wp2
    have hh : (((i : Int) + (j : Int)) / 2) = (((i + j) / 2 : Nat) : Int) := by omega
    rw [hh]
    have hb1 : i <= (i + j) / 2 := by omega
    have hb2 : (i + j) / 2 < j := by omega
    generalize (i + j) / 2 = h at *
    clear hh
    have hlen := HR.out.2
    have hrw := HR.out.below HBW.out
    have x1 := hrw.cell (k := mid + m - 1 - h) (by omega)
    have x2 := hrw.cell (k := h) (by omega)
    have HCALL : Hid (∀ W : World, Below wr.heap.size wr W -> Calls Tryz.prog f (#[.int .i64 (xs.getD (mid + m - 1 - h) 0), .int .i64 (xs.getD h 0)] ++ caps) W fun e w'' => e = .returned (.int .i64 (c (xs.getD (mid + m - 1 - h) 0) (xs.getD h 0))) /\ Below W.heap.size W w'') := by
     intro W hW
     exact HC.out _ _ (getD_ok HOK.out (by omega)) (getD_ok HOK.out (by omega)) W (.of_below (btr HBW.out hW))
    have hw1 := IntWalk.i64_in ((mid : Int) + (m : Int) - 1 - (h : Int)) (by omega)
    have ht : ((mid : Int) + (m : Int) - 1 - (h : Int)).toNat = mid + m - 1 - h := by omega
    have q1 : (0 : Int) <= (h : Int) := by omega
    have q2 : (h : Int) < (n : Int) := by omega
    have q3 : (0 : Int) <= (mid : Int) + (m : Int) - 1 - (h : Int) := by omega
    have q4 : (mid : Int) + (m : Int) - 1 - (h : Int) < (n : Int) := by omega
    have k1 := cell_regrown x1
    have k2 := cell_regrown x2
    have hrun : ∀ (args : Array Value) (W : World), Sem.run Tryz.prog (callFunc f args) W = .ok (.enter f args) W := HF.out
    clear hlen hrw
    generalize hx : xs.getD h 0 = x at *
    generalize hy : xs.getD (mid + m - 1 - h) 0 = y at *
    have HX := Zd hx
    have HY := Zd hy
    clear hx hy
    cases hcl : decide (c y x < 0)
    . have HCL := Zd (show ltOf c y x = false from hcl)
      refine wp_region_quiet_below (by kernel_rfl) (by kernel_rfl) ?_
      repeat (go_big_quiet_step ((exact Calls.regrown_of (HCALL.out _ (below_regrown _ _ _)))))
      refine wpQuiet_nil ?_
      intro _ hw'
      obtain ⟨⟨dq, osq⟩, hw''⟩ := hw'
      subst hw''
      go_wp2
      refine ⟨⟨h + 1, j, by omega, by omega, hj, by go_num, rfl, HBW.out.trans ((below_regrown _ dq osq).mono HBW.out.size), .inr ?_, HHI.out⟩, by simp [intOf]; omega⟩
      rw [show mid + m - (h + 1) = mid + m - 1 - h by omega, show h + 1 - 1 = h by omega, HX.out, HY.out]
      exact HCL.out
    . have HCL := Zd (show ltOf c y x = true from hcl)
      refine wp_region_quiet_below (by kernel_rfl) (by kernel_rfl) ?_
      repeat (go_big_quiet_step ((exact Calls.regrown_of (HCALL.out _ (below_regrown _ _ _)))))
      refine wpQuiet_nil ?_
      intro _ hw'
      obtain ⟨⟨dq, osq⟩, hw''⟩ := hw'
      subst hw''
      go_wp2
      refine ⟨⟨i, h, hi, by omega, by omega, rfl, rfl, HBW.out.trans ((below_regrown _ dq osq).mono HBW.out.size), HLO.out, .inr ?_⟩, by simp [intOf]; omega⟩
      rw [HX.out, HY.out]
      exact HCL.out
  . obtain rfl : i = j := by omega
    clear hij hlt
    obtain ⟨e, he⟩ : ∃ e : Nat, e + i = mid + m := ⟨mid + m - i, by omega⟩
    have hls := HR.out.2
    have hb3 : a <= i := by omega
    have hb4 : i <= m := by omega
    have hb5 : m <= e := by omega
    have hb6 : e <= b := by omega
    have hb7 : i <= mid := by omega
    have hb8 : mid <= e := by omega
    have HSP := Zd (sym_split HL.out H1.out H2.out (by omega) hb3 hb4 hb5 hb6 he (by
     rcases HLO.out with h | h
     . omega
     . right; right; rw [show e = mid + m - i by omega]; exact h) (by
     rcases HHI.out with h | h
     . omega
     . right; right; rw [show e - 1 = mid + m - 1 - i by omega]; exact h))
    have HMR := Zd ((Mix.rot (xs := xs) i m e hb4 hb5 (by omega)).wide hb3 hb6)
    have hidr : i = m ∨ m = e -> rot xs i m e = xs := rot_id xs i m e hb4 hb5 (by omega)
    have HID := Zd hidr
    clear hls hidr
    have hend : (mid : Int) + (m : Int) - (i : Int) = (e : Int) := by omega
    have HEND := Zd hend
    clear hend
    by_cases hr0 : i < m /\ m < e
    . obtain ⟨hr01, hr02⟩ := hr0
      have g1 : (i : Int) < (m : Int) := by omega
      have g2 : (m : Int) < (e : Int) := by omega
      have hend := HEND.out
      go_wp2_with fail
      clear hend
      refine (rotate_nat base g n cp i m e (.func (.func f) #[] caps) xs _ hn (by omega) (by omega) (by omega) (HR.out.below HBW.out)).mono ?_
      rintro er w1 ⟨rfl, hr1, ho1⟩
      have HR1 := Zd hr1
      have HO1 := Zd ((Only.of_below (g := g) HBW.out).trans ho1)
      clear hr1 ho1
      have HOK1 := Zd (mem_of_mix HMR.out HOK.out)
      by_cases hl0 : a < i /\ i < mid
      . obtain ⟨hl01, hl02⟩ := hl0
        first
         | (exfalso; omega)
         | (skip
            have g3 : (a : Int) < (i : Int) := by omega
            have g4 : (i : Int) < (mid : Int) := by omega
            have hend := HEND.out
            go_wp2_with fail
            clear hend
            refine (HIH.out a i mid _ _ _ (rot xs i m e) _ (by omega) (by omega) (by omega) (by omega) (by omega) (by omega) (by omega) HR1.out (HC.out.later HO1.out) HOK1.out HSP.out.1 HSP.out.2.1).mono ?_
            rintro er w2 ⟨rfl, ys, hr2, hm2, hs2, ho2⟩
            have HR2 := Zd hr2
            have HM2 := Zd hm2
            have HS2 := Zd hs2
            have HO2 := Zd (HO1.out.trans ho2)
            clear hr2 hm2 hs2 ho2
            have HS3 := Zd (HSP.out.2.2.1.keep fun p p1 p2 => HM2.out.out p (by omega))
            have HS4 := Zd (HSP.out.2.2.2.1.keep fun p p1 p2 => HM2.out.out p (by omega))
            by_cases hx0 : mid < e /\ e < b
            . obtain ⟨hx01, hx02⟩ := hx0
              first
               | (exfalso; omega)
               | (skip
                  have g5 : (mid : Int) < (e : Int) := by omega
                  have g6 : (e : Int) < (b : Int) := by omega
                  have hend := HEND.out
                  go_wp2_with fail
                  refine (HIH.out mid e b _ _ _ ys _ (by omega) (by omega) (by omega) (by omega) (by omega) (by omega) (by omega) HR2.out (HC.out.later HO2.out) (mem_of_mix HM2.out HOK1.out) HS3.out HS4.out).mono ?_
                  rintro er w3 ⟨rfl, zs, hr3, hm3, hs3, ho3⟩
                  go_wp2
                  go_end0
                  have hm0 := HMR.out.trans ((HM2.out.wide (Nat.le_refl _) (by omega)).trans (hm3.wide (by omega) (Nat.le_refl _)))
                  refine ⟨rfl, zs, hr3, hm0, ?_, HO2.out.trans ho3⟩
                  exact rises_join (HS2.out.keep fun p p1 p2 => hm3.out p (by omega)) hs3 (cross_mix' (cross_mix HSP.out.2.2.2.2 HM2.out) hm3)
                  )
            . have g5 : ¬ ((mid : Int) < (e : Int)) ∨ ¬ ((e : Int) < (b : Int)) := by omega
              first
               | (exfalso; omega)
               | (skip
                  have hend := HEND.out
                  go_wp2
                  go_end0
                  have hm0 := HMR.out.trans (HM2.out.wide (Nat.le_refl _) (by omega))
                  refine ⟨rfl, ys, HR2.out, hm0, ?_, HO2.out⟩
                  exact rises_join HS2.out (rises_one HS3.out HS4.out (by omega) hb8) (cross_mix HSP.out.2.2.2.2 HM2.out)
                  )
            )
      . obtain ⟨ys, hys⟩ : ∃ ys, ys = rot xs i m e := ⟨_, rfl⟩
        have HR2 : Hid (RowI base g n cp w1 ys) := by rw [hys]; exact HR1.out
        have HM2 : Hid (Mix a mid (rot xs i m e) ys) := by rw [hys]; exact Mix.refl _ _ _
        have HS2 : Hid (Rises (ltOf c) a mid ys) := by rw [hys]; exact rises_one HSP.out.1 HSP.out.2.1 (by omega) hb3
        have HO2 := HO1
        clear hys
        have HS3 := Zd (HSP.out.2.2.1.keep fun p p1 p2 => HM2.out.out p (by omega))
        have HS4 := Zd (HSP.out.2.2.2.1.keep fun p p1 p2 => HM2.out.out p (by omega))
        by_cases hx0 : mid < e /\ e < b
        . obtain ⟨hx01, hx02⟩ := hx0
          first
           | (exfalso; omega)
           | (skip
              have g5 : (mid : Int) < (e : Int) := by omega
              have g6 : (e : Int) < (b : Int) := by omega
              have hend := HEND.out
              go_wp2_with fail
              refine (HIH.out mid e b _ _ _ ys _ (by omega) (by omega) (by omega) (by omega) (by omega) (by omega) (by omega) HR2.out (HC.out.later HO2.out) (mem_of_mix HM2.out HOK1.out) HS3.out HS4.out).mono ?_
              rintro er w3 ⟨rfl, zs, hr3, hm3, hs3, ho3⟩
              go_wp2
              go_end0
              have hm0 := HMR.out.trans ((HM2.out.wide (Nat.le_refl _) (by omega)).trans (hm3.wide (by omega) (Nat.le_refl _)))
              refine ⟨rfl, zs, hr3, hm0, ?_, HO2.out.trans ho3⟩
              exact rises_join (HS2.out.keep fun p p1 p2 => hm3.out p (by omega)) hs3 (cross_mix' (cross_mix HSP.out.2.2.2.2 HM2.out) hm3)
              )
        . have g5 : ¬ ((mid : Int) < (e : Int)) ∨ ¬ ((e : Int) < (b : Int)) := by omega
          first
           | (exfalso; omega)
           | (skip
              have hend := HEND.out
              go_wp2
              go_end0
              have hm0 := HMR.out.trans (HM2.out.wide (Nat.le_refl _) (by omega))
              refine ⟨rfl, ys, HR2.out, hm0, ?_, HO2.out⟩
              exact rises_join HS2.out (rises_one HS3.out HS4.out (by omega) hb8) (cross_mix HSP.out.2.2.2.2 HM2.out)
              )
    . have hend := HEND.out
      have g1 : ¬ ((i : Int) < (m : Int)) ∨ ¬ ((m : Int) < (e : Int)) := by omega
      have HR1 : Hid (RowI base g n cp wr (rot xs i m e)) := by rw [HID.out (by omega)]; exact HR.out.below HBW.out
      have HO1 : Hid (Only g w wr) := .of_below HBW.out
      have HOK1 := Zd (mem_of_mix HMR.out HOK.out)
      by_cases hl0 : a < i /\ i < mid
      . obtain ⟨hl01, hl02⟩ := hl0
        first
         | (exfalso; omega)
         | (skip
            have g3 : (a : Int) < (i : Int) := by omega
            have g4 : (i : Int) < (mid : Int) := by omega
            have hend := HEND.out
            go_wp2_with fail
            clear hend
            refine (HIH.out a i mid _ _ _ (rot xs i m e) _ (by omega) (by omega) (by omega) (by omega) (by omega) (by omega) (by omega) HR1.out (HC.out.later HO1.out) HOK1.out HSP.out.1 HSP.out.2.1).mono ?_
            rintro er w2 ⟨rfl, ys, hr2, hm2, hs2, ho2⟩
            have HR2 := Zd hr2
            have HM2 := Zd hm2
            have HS2 := Zd hs2
            have HO2 := Zd (HO1.out.trans ho2)
            clear hr2 hm2 hs2 ho2
            have HS3 := Zd (HSP.out.2.2.1.keep fun p p1 p2 => HM2.out.out p (by omega))
            have HS4 := Zd (HSP.out.2.2.2.1.keep fun p p1 p2 => HM2.out.out p (by omega))
            by_cases hx0 : mid < e /\ e < b
            . obtain ⟨hx01, hx02⟩ := hx0
              first
               | (exfalso; omega)
               | (skip
                  have g5 : (mid : Int) < (e : Int) := by omega
                  have g6 : (e : Int) < (b : Int) := by omega
                  have hend := HEND.out
                  go_wp2_with fail
                  refine (HIH.out mid e b _ _ _ ys _ (by omega) (by omega) (by omega) (by omega) (by omega) (by omega) (by omega) HR2.out (HC.out.later HO2.out) (mem_of_mix HM2.out HOK1.out) HS3.out HS4.out).mono ?_
                  rintro er w3 ⟨rfl, zs, hr3, hm3, hs3, ho3⟩
                  go_wp2
                  go_end0
                  have hm0 := HMR.out.trans ((HM2.out.wide (Nat.le_refl _) (by omega)).trans (hm3.wide (by omega) (Nat.le_refl _)))
                  refine ⟨rfl, zs, hr3, hm0, ?_, HO2.out.trans ho3⟩
                  exact rises_join (HS2.out.keep fun p p1 p2 => hm3.out p (by omega)) hs3 (cross_mix' (cross_mix HSP.out.2.2.2.2 HM2.out) hm3)
                  )
            . have g5 : ¬ ((mid : Int) < (e : Int)) ∨ ¬ ((e : Int) < (b : Int)) := by omega
              first
               | (exfalso; omega)
               | (skip
                  have hend := HEND.out
                  go_wp2
                  go_end0
                  have hm0 := HMR.out.trans (HM2.out.wide (Nat.le_refl _) (by omega))
                  refine ⟨rfl, ys, HR2.out, hm0, ?_, HO2.out⟩
                  exact rises_join HS2.out (rises_one HS3.out HS4.out (by omega) hb8) (cross_mix HSP.out.2.2.2.2 HM2.out)
                  )
            )
      . obtain ⟨ys, hys⟩ : ∃ ys, ys = rot xs i m e := ⟨_, rfl⟩
        have HR2 : Hid (RowI base g n cp wr ys) := by rw [hys]; exact HR1.out
        have HM2 : Hid (Mix a mid (rot xs i m e) ys) := by rw [hys]; exact Mix.refl _ _ _
        have HS2 : Hid (Rises (ltOf c) a mid ys) := by rw [hys]; exact rises_one HSP.out.1 HSP.out.2.1 (by omega) hb3
        have HO2 := HO1
        clear hys
        have HS3 := Zd (HSP.out.2.2.1.keep fun p p1 p2 => HM2.out.out p (by omega))
        have HS4 := Zd (HSP.out.2.2.2.1.keep fun p p1 p2 => HM2.out.out p (by omega))
        by_cases hx0 : mid < e /\ e < b
        . obtain ⟨hx01, hx02⟩ := hx0
          first
           | (exfalso; omega)
           | (skip
              have g5 : (mid : Int) < (e : Int) := by omega
              have g6 : (e : Int) < (b : Int) := by omega
              have hend := HEND.out
              go_wp2_with fail
              refine (HIH.out mid e b _ _ _ ys _ (by omega) (by omega) (by omega) (by omega) (by omega) (by omega) (by omega) HR2.out (HC.out.later HO2.out) (mem_of_mix HM2.out HOK1.out) HS3.out HS4.out).mono ?_
              rintro er w3 ⟨rfl, zs, hr3, hm3, hs3, ho3⟩
              go_wp2
              go_end0
              have hm0 := HMR.out.trans ((HM2.out.wide (Nat.le_refl _) (by omega)).trans (hm3.wide (by omega) (Nat.le_refl _)))
              refine ⟨rfl, zs, hr3, hm0, ?_, HO2.out.trans ho3⟩
              exact rises_join (HS2.out.keep fun p p1 p2 => hm3.out p (by omega)) hs3 (cross_mix' (cross_mix HSP.out.2.2.2.2 HM2.out) hm3)
              )
        . have g5 : ¬ ((mid : Int) < (e : Int)) ∨ ¬ ((e : Int) < (b : Int)) := by omega
          first
           | (exfalso; omega)
           | (skip
              have hend := HEND.out
              go_wp2
              go_end0
              have hm0 := HMR.out.trans (HM2.out.wide (Nat.le_refl _) (by omega))
              refine ⟨rfl, ys, HR2.out, hm0, ?_, HO2.out⟩
              exact rises_join HS2.out (rises_one HS3.out HS4.out (by omega) hb8) (cross_mix HSP.out.2.2.2.2 HM2.out)
              )
theorem symMerge_cs (base g n cp a m b : Nat) (f : FuncId) (caps : Array Value) (c : Int -> Int -> Int) (ok : Int -> Prop) (N : Nat) (xs : List Int) (w : World) (hn : n <= 1048576) (hN : b - a <= N + 1) (ham : a + 1 < m) (hmb : m + 1 < b) (hb : b <= n) (hmm : m <= (a + b) / 2) (hR : RowI base g n cp w xs)
  (hf : Enters f) (hl : Less (ltOf c)) (hC : Cmps g w f caps c ok) (hok : ∀ x ∈ xs, ok x) (h1 : Rises (ltOf c) a m xs) (h2 : Rises (ltOf c) m b xs) (hIH : SymOk base g n cp f caps c ok N) :
  Calls Tryz.prog 230 #[.slice (some ⟨g, 0, none⟩) n cp, .int .i64 a, .int .i64 m, .int .i64 b, .func (.func f) #[] caps] w (Sorted base g n cp a b (ltOf c) xs w) := by
 have HR := Zd hR
 have HC := Zd hC
 have HL := Zd hl
 have HOK := Zd hok
 have HF := Zd hf
 have H1 := Zd h1
 have H2 := Zd h2
 have HIH := Zd hIH
 clear hR hC hl hok hf h1 h2 hIH
 have e1 : ((m : Int) - (a : Int) == 1) = false := by rw [beq_eq_false_iff_ne]; omega
 have e2 : ((b : Int) - (m : Int) == 1) = false := by rw [beq_eq_false_iff_ne]; omega
 have e3 : ¬ (((a : Int) + (b : Int)) / 2 < (m : Int)) := by omega
 go_enter Tryz.func230, Tryz.ntmps230
 go_wp2
 have hmid : (((a : Int) + (b : Int)) / 2) = (((a + b) / 2 : Nat) : Int) := by omega
 rw [hmid]
 have hd1 : 2 * ((a + b) / 2) <= a + b := by omega
 have hd2 : a + b <= 2 * ((a + b) / 2) + 1 := by omega
 clear e3 hmid
 generalize (a + b) / 2 = mid at *
 go_loopw [20, 21] (fun u v wr => ∃ i j : Nat, a <= i /\ i <= j /\ j <= m /\ u = .int .i64 i /\ v = .int .i64 j /\ Below w.heap.size w wr /\ (i = a ∨ ltOf c (xs.getD (mid + m - i) 0) (xs.getD (i - 1) 0) = false) /\ (j = m ∨ ltOf c (xs.getD (mid + m - 1 - j) 0) (xs.getD j 0) = true)) (fun u v _ => (intOf v).toNat - (intOf u).toNat)
 case atStart => exact ⟨a, m, by omega, by omega, by omega, rfl, rfl, Below.refl _ _, .inl rfl, .inl rfl⟩
 case round =>
  obtain ⟨i, j, hi, hij, hj, rfl, rfl, hbw, hlo, hhi⟩ := hrel
  have HBW := Zd hbw
  have HLO := Zd hlo
  have HHI := Zd hhi
  clear hbw hlo hhi
  by_cases hlt : i < j
  . go_wp2
    have hh : (((i : Int) + (j : Int)) / 2) = (((i + j) / 2 : Nat) : Int) := by omega
    rw [hh]
    have hb1 : i <= (i + j) / 2 := by omega
    have hb2 : (i + j) / 2 < j := by omega
    generalize (i + j) / 2 = h at *
    clear hh
    have hlen := HR.out.2
    have hrw := HR.out.below HBW.out
    have x1 := hrw.cell (k := mid + m - 1 - h) (by omega)
    have x2 := hrw.cell (k := h) (by omega)
    have HCALL : Hid (∀ W : World, Below wr.heap.size wr W -> Calls Tryz.prog f (#[.int .i64 (xs.getD (mid + m - 1 - h) 0), .int .i64 (xs.getD h 0)] ++ caps) W fun e w'' => e = .returned (.int .i64 (c (xs.getD (mid + m - 1 - h) 0) (xs.getD h 0))) /\ Below W.heap.size W w'') := by
     intro W hW
     exact HC.out _ _ (getD_ok HOK.out (by omega)) (getD_ok HOK.out (by omega)) W (.of_below (btr HBW.out hW))
    have hw1 := IntWalk.i64_in ((mid : Int) + (m : Int) - 1 - (h : Int)) (by omega)
    have ht : ((mid : Int) + (m : Int) - 1 - (h : Int)).toNat = mid + m - 1 - h := by omega
    have q1 : (0 : Int) <= (h : Int) := by omega
    have q2 : (h : Int) < (n : Int) := by omega
    have q3 : (0 : Int) <= (mid : Int) + (m : Int) - 1 - (h : Int) := by omega
    have q4 : (mid : Int) + (m : Int) - 1 - (h : Int) < (n : Int) := by omega
    have k1 := cell_regrown x1
    have k2 := cell_regrown x2
    have hrun : ∀ (args : Array Value) (W : World), Sem.run Tryz.prog (callFunc f args) W = .ok (.enter f args) W := HF.out
    clear hlen hrw
    generalize hx : xs.getD h 0 = x at *
    generalize hy : xs.getD (mid + m - 1 - h) 0 = y at *
    have HX := Zd hx
    have HY := Zd hy
    clear hx hy
    cases hcl : decide (c y x < 0)
    . have HCL := Zd (show ltOf c y x = false from hcl)
      refine wp_region_quiet_below (by kernel_rfl) (by kernel_rfl) ?_
      repeat (go_big_quiet_step ((exact Calls.regrown_of (HCALL.out _ (below_regrown _ _ _)))))
      refine wpQuiet_nil ?_
      intro _ hw'
      obtain ⟨⟨dq, osq⟩, hw''⟩ := hw'
      subst hw''
      go_wp2
      refine ⟨⟨h + 1, j, by omega, by omega, hj, by go_num, rfl, HBW.out.trans ((below_regrown _ dq osq).mono HBW.out.size), .inr ?_, HHI.out⟩, by simp [intOf]; omega⟩
      rw [show mid + m - (h + 1) = mid + m - 1 - h by omega, show h + 1 - 1 = h by omega, HX.out, HY.out]
      exact HCL.out
    . have HCL := Zd (show ltOf c y x = true from hcl)
      refine wp_region_quiet_below (by kernel_rfl) (by kernel_rfl) ?_
      repeat (go_big_quiet_step ((exact Calls.regrown_of (HCALL.out _ (below_regrown _ _ _)))))
      refine wpQuiet_nil ?_
      intro _ hw'
      obtain ⟨⟨dq, osq⟩, hw''⟩ := hw'
      subst hw''
      go_wp2
      refine ⟨⟨i, h, hi, by omega, by omega, rfl, rfl, HBW.out.trans ((below_regrown _ dq osq).mono HBW.out.size), HLO.out, .inr ?_⟩, by simp [intOf]; omega⟩
      rw [HX.out, HY.out]
      exact HCL.out
  . obtain rfl : i = j := by omega
    clear hij hlt
    obtain ⟨e, he⟩ : ∃ e : Nat, e + i = mid + m := ⟨mid + m - i, by omega⟩
    have hls := HR.out.2
    have hb3 : a <= i := by omega
    have hb4 : i <= m := by omega
    have hb5 : m <= e := by omega
    have hb6 : e <= b := by omega
    have hb7 : i <= mid := by omega
    have hb8 : mid <= e := by omega
    have HSP := Zd (sym_split HL.out H1.out H2.out (by omega) hb3 hb4 hb5 hb6 he (by
     rcases HLO.out with h | h
     . omega
     . right; right; rw [show e = mid + m - i by omega]; exact h) (by
     rcases HHI.out with h | h
     . omega
     . right; right; rw [show e - 1 = mid + m - 1 - i by omega]; exact h))
    have HMR := Zd ((Mix.rot (xs := xs) i m e hb4 hb5 (by omega)).wide hb3 hb6)
    have hidr : i = m ∨ m = e -> rot xs i m e = xs := rot_id xs i m e hb4 hb5 (by omega)
    have HID := Zd hidr
    clear hls hidr
    have hend : (mid : Int) + (m : Int) - (i : Int) = (e : Int) := by omega
    have HEND := Zd hend
    clear hend
    by_cases hr0 : i < m /\ m < e
    . obtain ⟨hr01, hr02⟩ := hr0
      have g1 : (i : Int) < (m : Int) := by omega
      have g2 : (m : Int) < (e : Int) := by omega
      have hend := HEND.out
      go_wp2_with fail
      clear hend
      refine (rotate_nat base g n cp i m e (.func (.func f) #[] caps) xs _ hn (by omega) (by omega) (by omega) (HR.out.below HBW.out)).mono ?_
      rintro er w1 ⟨rfl, hr1, ho1⟩
      have HR1 := Zd hr1
      have HO1 := Zd ((Only.of_below (g := g) HBW.out).trans ho1)
      clear hr1 ho1
      have HOK1 := Zd (mem_of_mix HMR.out HOK.out)
      by_cases hl0 : a < i /\ i < mid
      . obtain ⟨hl01, hl02⟩ := hl0
        first
         | (exfalso; omega)
         | (skip
            have g3 : (a : Int) < (i : Int) := by omega
            have g4 : (i : Int) < (mid : Int) := by omega
            have hend := HEND.out
            go_wp2_with fail
            clear hend
            refine (HIH.out a i mid _ _ _ (rot xs i m e) _ (by omega) (by omega) (by omega) (by omega) (by omega) (by omega) (by omega) HR1.out (HC.out.later HO1.out) HOK1.out HSP.out.1 HSP.out.2.1).mono ?_
            rintro er w2 ⟨rfl, ys, hr2, hm2, hs2, ho2⟩
            have HR2 := Zd hr2
            have HM2 := Zd hm2
            have HS2 := Zd hs2
            have HO2 := Zd (HO1.out.trans ho2)
            clear hr2 hm2 hs2 ho2
            have HS3 := Zd (HSP.out.2.2.1.keep fun p p1 p2 => HM2.out.out p (by omega))
            have HS4 := Zd (HSP.out.2.2.2.1.keep fun p p1 p2 => HM2.out.out p (by omega))
            by_cases hx0 : mid < e /\ e < b
            . obtain ⟨hx01, hx02⟩ := hx0
              first
               | (exfalso; omega)
               | (skip
                  have g5 : (mid : Int) < (e : Int) := by omega
                  have g6 : (e : Int) < (b : Int) := by omega
                  have hend := HEND.out
                  go_wp2_with fail
                  refine (HIH.out mid e b _ _ _ ys _ (by omega) (by omega) (by omega) (by omega) (by omega) (by omega) (by omega) HR2.out (HC.out.later HO2.out) (mem_of_mix HM2.out HOK1.out) HS3.out HS4.out).mono ?_
                  rintro er w3 ⟨rfl, zs, hr3, hm3, hs3, ho3⟩
                  go_wp2
                  go_end0
                  have hm0 := HMR.out.trans ((HM2.out.wide (Nat.le_refl _) (by omega)).trans (hm3.wide (by omega) (Nat.le_refl _)))
                  refine ⟨rfl, zs, hr3, hm0, ?_, HO2.out.trans ho3⟩
                  exact rises_join (HS2.out.keep fun p p1 p2 => hm3.out p (by omega)) hs3 (cross_mix' (cross_mix HSP.out.2.2.2.2 HM2.out) hm3)
                  )
            . have g5 : ¬ ((mid : Int) < (e : Int)) ∨ ¬ ((e : Int) < (b : Int)) := by omega
              first
               | (exfalso; omega)
               | (skip
                  have hend := HEND.out
                  go_wp2
                  go_end0
                  have hm0 := HMR.out.trans (HM2.out.wide (Nat.le_refl _) (by omega))
                  refine ⟨rfl, ys, HR2.out, hm0, ?_, HO2.out⟩
                  exact rises_join HS2.out (rises_one HS3.out HS4.out (by omega) hb8) (cross_mix HSP.out.2.2.2.2 HM2.out)
                  )
            )
      . obtain ⟨ys, hys⟩ : ∃ ys, ys = rot xs i m e := ⟨_, rfl⟩
        have HR2 : Hid (RowI base g n cp w1 ys) := by rw [hys]; exact HR1.out
        have HM2 : Hid (Mix a mid (rot xs i m e) ys) := by rw [hys]; exact Mix.refl _ _ _
        have HS2 : Hid (Rises (ltOf c) a mid ys) := by rw [hys]; exact rises_one HSP.out.1 HSP.out.2.1 (by omega) hb3
        have HO2 := HO1
        clear hys
        have HS3 := Zd (HSP.out.2.2.1.keep fun p p1 p2 => HM2.out.out p (by omega))
        have HS4 := Zd (HSP.out.2.2.2.1.keep fun p p1 p2 => HM2.out.out p (by omega))
        by_cases hx0 : mid < e /\ e < b
        . obtain ⟨hx01, hx02⟩ := hx0
          first
           | (exfalso; omega)
           | (skip
              have g5 : (mid : Int) < (e : Int) := by omega
              have g6 : (e : Int) < (b : Int) := by omega
              have hend := HEND.out
              go_wp2_with fail
              refine (HIH.out mid e b _ _ _ ys _ (by omega) (by omega) (by omega) (by omega) (by omega) (by omega) (by omega) HR2.out (HC.out.later HO2.out) (mem_of_mix HM2.out HOK1.out) HS3.out HS4.out).mono ?_
              rintro er w3 ⟨rfl, zs, hr3, hm3, hs3, ho3⟩
              go_wp2
              go_end0
              have hm0 := HMR.out.trans ((HM2.out.wide (Nat.le_refl _) (by omega)).trans (hm3.wide (by omega) (Nat.le_refl _)))
              refine ⟨rfl, zs, hr3, hm0, ?_, HO2.out.trans ho3⟩
              exact rises_join (HS2.out.keep fun p p1 p2 => hm3.out p (by omega)) hs3 (cross_mix' (cross_mix HSP.out.2.2.2.2 HM2.out) hm3)
              )
        . have g5 : ¬ ((mid : Int) < (e : Int)) ∨ ¬ ((e : Int) < (b : Int)) := by omega
          first
           | (exfalso; omega)
           | (skip
              have hend := HEND.out
              go_wp2
              go_end0
              have hm0 := HMR.out.trans (HM2.out.wide (Nat.le_refl _) (by omega))
              refine ⟨rfl, ys, HR2.out, hm0, ?_, HO2.out⟩
              exact rises_join HS2.out (rises_one HS3.out HS4.out (by omega) hb8) (cross_mix HSP.out.2.2.2.2 HM2.out)
              )
    . have hend := HEND.out
      have g1 : ¬ ((i : Int) < (m : Int)) ∨ ¬ ((m : Int) < (e : Int)) := by omega
      have HR1 : Hid (RowI base g n cp wr (rot xs i m e)) := by rw [HID.out (by omega)]; exact HR.out.below HBW.out
      have HO1 : Hid (Only g w wr) := .of_below HBW.out
      have HOK1 := Zd (mem_of_mix HMR.out HOK.out)
      by_cases hl0 : a < i /\ i < mid
      . obtain ⟨hl01, hl02⟩ := hl0
        first
         | (exfalso; omega)
         | (skip
            have g3 : (a : Int) < (i : Int) := by omega
            have g4 : (i : Int) < (mid : Int) := by omega
            have hend := HEND.out
            go_wp2_with fail
            clear hend
            refine (HIH.out a i mid _ _ _ (rot xs i m e) _ (by omega) (by omega) (by omega) (by omega) (by omega) (by omega) (by omega) HR1.out (HC.out.later HO1.out) HOK1.out HSP.out.1 HSP.out.2.1).mono ?_
            rintro er w2 ⟨rfl, ys, hr2, hm2, hs2, ho2⟩
            have HR2 := Zd hr2
            have HM2 := Zd hm2
            have HS2 := Zd hs2
            have HO2 := Zd (HO1.out.trans ho2)
            clear hr2 hm2 hs2 ho2
            have HS3 := Zd (HSP.out.2.2.1.keep fun p p1 p2 => HM2.out.out p (by omega))
            have HS4 := Zd (HSP.out.2.2.2.1.keep fun p p1 p2 => HM2.out.out p (by omega))
            by_cases hx0 : mid < e /\ e < b
            . obtain ⟨hx01, hx02⟩ := hx0
              first
               | (exfalso; omega)
               | (skip
                  have g5 : (mid : Int) < (e : Int) := by omega
                  have g6 : (e : Int) < (b : Int) := by omega
                  have hend := HEND.out
                  go_wp2_with fail
                  refine (HIH.out mid e b _ _ _ ys _ (by omega) (by omega) (by omega) (by omega) (by omega) (by omega) (by omega) HR2.out (HC.out.later HO2.out) (mem_of_mix HM2.out HOK1.out) HS3.out HS4.out).mono ?_
                  rintro er w3 ⟨rfl, zs, hr3, hm3, hs3, ho3⟩
                  go_wp2
                  go_end0
                  have hm0 := HMR.out.trans ((HM2.out.wide (Nat.le_refl _) (by omega)).trans (hm3.wide (by omega) (Nat.le_refl _)))
                  refine ⟨rfl, zs, hr3, hm0, ?_, HO2.out.trans ho3⟩
                  exact rises_join (HS2.out.keep fun p p1 p2 => hm3.out p (by omega)) hs3 (cross_mix' (cross_mix HSP.out.2.2.2.2 HM2.out) hm3)
                  )
            . have g5 : ¬ ((mid : Int) < (e : Int)) ∨ ¬ ((e : Int) < (b : Int)) := by omega
              first
               | (exfalso; omega)
               | (skip
                  have hend := HEND.out
                  go_wp2
                  go_end0
                  have hm0 := HMR.out.trans (HM2.out.wide (Nat.le_refl _) (by omega))
                  refine ⟨rfl, ys, HR2.out, hm0, ?_, HO2.out⟩
                  exact rises_join HS2.out (rises_one HS3.out HS4.out (by omega) hb8) (cross_mix HSP.out.2.2.2.2 HM2.out)
                  )
            )
      . obtain ⟨ys, hys⟩ : ∃ ys, ys = rot xs i m e := ⟨_, rfl⟩
        have HR2 : Hid (RowI base g n cp wr ys) := by rw [hys]; exact HR1.out
        have HM2 : Hid (Mix a mid (rot xs i m e) ys) := by rw [hys]; exact Mix.refl _ _ _
        have HS2 : Hid (Rises (ltOf c) a mid ys) := by rw [hys]; exact rises_one HSP.out.1 HSP.out.2.1 (by omega) hb3
        have HO2 := HO1
        clear hys
        have HS3 := Zd (HSP.out.2.2.1.keep fun p p1 p2 => HM2.out.out p (by omega))
        have HS4 := Zd (HSP.out.2.2.2.1.keep fun p p1 p2 => HM2.out.out p (by omega))
        by_cases hx0 : mid < e /\ e < b
        . obtain ⟨hx01, hx02⟩ := hx0
          first
           | (exfalso; omega)
           | (skip
              have g5 : (mid : Int) < (e : Int) := by omega
              have g6 : (e : Int) < (b : Int) := by omega
              have hend := HEND.out
              go_wp2_with fail
              refine (HIH.out mid e b _ _ _ ys _ (by omega) (by omega) (by omega) (by omega) (by omega) (by omega) (by omega) HR2.out (HC.out.later HO2.out) (mem_of_mix HM2.out HOK1.out) HS3.out HS4.out).mono ?_
              rintro er w3 ⟨rfl, zs, hr3, hm3, hs3, ho3⟩
              go_wp2
              go_end0
              have hm0 := HMR.out.trans ((HM2.out.wide (Nat.le_refl _) (by omega)).trans (hm3.wide (by omega) (Nat.le_refl _)))
              refine ⟨rfl, zs, hr3, hm0, ?_, HO2.out.trans ho3⟩
              exact rises_join (HS2.out.keep fun p p1 p2 => hm3.out p (by omega)) hs3 (cross_mix' (cross_mix HSP.out.2.2.2.2 HM2.out) hm3)
              )
        . have g5 : ¬ ((mid : Int) < (e : Int)) ∨ ¬ ((e : Int) < (b : Int)) := by omega
          first
           | (exfalso; omega)
           | (skip
              have hend := HEND.out
              go_wp2
              go_end0
              have hm0 := HMR.out.trans (HM2.out.wide (Nat.le_refl _) (by omega))
              refine ⟨rfl, ys, HR2.out, hm0, ?_, HO2.out⟩
              exact rises_join HS2.out (rises_one HS3.out HS4.out (by omega) hb8) (cross_mix HSP.out.2.2.2.2 HM2.out)
              )
theorem symMerge_any (base g n cp : Nat) (f : FuncId) (caps : Array Value) (c : Int -> Int -> Int) (ok : Int -> Prop) (hn : n <= 1048576) (hf : Enters f) (hl : Less (ltOf c)) : ∀ N, SymOk base g n cp f caps c ok N
 | 0 => fun a m b A M B xs w hA hM hB hN h1 h2 => by omega
 | N + 1 => by
   intro a m b A M B xs w hA hM hB hN ham hmb hbn hR hC hok h1 h2
   have ih := symMerge_any base g n cp f caps c ok hn hf hl N
   subst hA hB
   by_cases ha : m = a + 1
   . subst ha
     exact symMerge_a base g n cp a b f caps c ok xs w hn hmb hbn hR hf hl hC hok h2 M hM
   . subst hM
     by_cases hb : b = m + 1
     . exact symMerge_b base g n cp a m b f caps c ok xs w hn (by omega) hmb (by omega) hbn hR hf hl hC hok h1
     . rcases Nat.lt_or_ge ((a + b) / 2) m with hmid | hmid
       . exact symMerge_cb base g n cp a m b f caps c ok N xs w hn hN (by omega) (by omega) hbn hmid hR hf hl hC hok h1 h2 ih
       . exact symMerge_cs base g n cp a m b f caps c ok N xs w hn hN (by omega) (by omega) hbn hmid hR hf hl hC hok h1 h2 ih
def Pieces (lt : Int -> Int -> Bool) (bs t0 : Nat) (ys : List Int) : Prop := ∀ t, t < t0 -> Rises lt (t * bs) (t * bs + bs) ys
def PiecesFrom (lt : Int -> Int -> Bool) (bs a N : Nat) (ys : List Int) : Prop := ∀ s, Rises lt (a + s * bs) (min (a + s * bs + bs) N) ys
theorem rises_none {lt : Int -> Int -> Bool} {a b : Nat} {ys : List Int} (h : b <= a + 1) : Rises lt a b ys := fun i j h1 h2 h3 => by omega
theorem mul_lt_step {t t0 bs : Nat} (h : t < t0) : t * bs + bs <= t0 * bs := by
 have := Nat.mul_le_mul_right bs (show t + 1 <= t0 by omega)
 rw [Nat.add_mul, Nat.one_mul] at this
 exact this
theorem pieces_add {lt : Int -> Int -> Bool} {bs t0 a b : Nat} {xs ys : List Int} (h : Pieces lt bs t0 xs) (ha : a = t0 * bs) (hb : b = a + bs) (hm : Mix a b xs ys) (hr : Rises lt a b ys) : Pieces lt bs (t0 + 1) ys := by
 intro t ht
 by_cases he : t = t0
 . subst he; rw [<- ha, <- hb]; exact hr
 . have h1 := mul_lt_step (bs := bs) (show t < t0 by omega)
   exact (h t (by omega)).keep fun i i1 i2 => hm.out i (by omega)
theorem pieces_from {lt : Int -> Int -> Bool} {bs t0 a n : Nat} {xs ys : List Int} (h : Pieces lt bs t0 xs) (ha : a = t0 * bs) (hn : n <= a + bs) (hm : Mix a n xs ys) (hr : Rises lt a n ys) : PiecesFrom lt bs 0 n ys := by
 intro s
 rw [Nat.zero_add]
 rcases Nat.lt_trichotomy s t0 with hs | hs | hs
 . have h1 := mul_lt_step (bs := bs) hs
   intro i j i1 i2 i3
   exact ((h s hs).keep (ys := ys) fun i i1 i2 => hm.out i (by omega)) i j i1 i2 (by omega)
 . subst hs
   rw [<- ha]
   intro i j i1 i2 i3
   exact hr i j i1 i2 (by omega)
 . have h1 := mul_lt_step (bs := bs) hs
   exact rises_none (by omega)
theorem from_step {lt : Int -> Int -> Bool} {bs a b n : Nat} {xs ys : List Int} (h : PiecesFrom lt bs a n xs) (hb : b = a + 2 * bs) (hm : Mix a b xs ys) : PiecesFrom lt bs b n ys := by
 intro s
 have e : b + s * bs = a + (s + 2) * bs := by rw [Nat.add_mul]; omega
 rw [e]
 exact (h (s + 2)).keep fun i i1 i2 => hm.out i (by rw [Nat.add_mul] at i1; omega)
theorem from_two {lt : Int -> Int -> Bool} {bs a n : Nat} {xs : List Int} (h : PiecesFrom lt bs a n xs) : Rises lt a (min (a + bs) n) xs /\ Rises lt (a + bs) (min (a + bs + bs) n) xs := by
 have h0 := h 0
 have h1 := h 1
 rw [Nat.zero_mul, Nat.add_zero] at h0
 rw [Nat.one_mul] at h1
 exact ⟨h0, h1⟩
theorem stable_nat (base g n cp : Nat) (f : FuncId) (caps : Array Value) (c : Int -> Int -> Int) (ok : Int -> Prop) (xs : List Int) (w : World) (hn : n <= 1048576) (hR : RowI base g n cp w xs)
  (hf : Enters f) (hl : Less (ltOf c)) (hC : Cmps g w f caps c ok) (hok : ∀ x ∈ xs, ok x) :
  Calls Tryz.prog 226 #[.slice (some ⟨g, 0, none⟩) n cp, .int .i64 n, .func (.func f) #[] caps] w (Sorted base g n cp 0 n (ltOf c) xs w) := by
 have HR := Zd hR
 have HC := Zd hC
 have HL := Zd hl
 have HOK := Zd hok
 have HF := Zd hf
 have HSYM := Zd (symMerge_any base g n cp f caps c ok hn hf hl n)
 clear hR hC hl hok hf
 go_enter Tryz.func226, Tryz.ntmps226
 go_wp2
 go_loopw [7, 8] (fun u v wr => ∃ (a b t : Nat) (ys : List Int), a <= n /\ b <= a + 20 /\ a + 20 <= b /\ Hid (a = t * 20) /\ u = .int .i64 a /\ v = .int .i64 b /\ RowI base g n cp wr ys /\ Mix 0 n xs ys /\ Pieces (ltOf c) 20 t ys /\ Only g w wr) (fun u _ _ => n - (intOf u).toNat)
 case atStart => exact ⟨0, 20, 0, xs, by omega, by omega, by omega, rfl, rfl, rfl, HR.out, Mix.refl _ _ _, fun t ht => by omega, Only.refl _ _⟩
 case round =>
  obtain ⟨a, b, t, ys, han, hb1, hb2, hat, rfl, rfl, hr, hm, hp, ho⟩ := hrel
  have HRZ := Zd hr
  have HMZ := Zd hm
  have HPZ := Zd hp
  have HOZ := Zd ho
  clear hr hm hp ho
  by_cases hbn : b <= n
  . go_wp2_with fail
    refine (insertion_nat base g n cp a b f caps c ok ys _ hn (by omega) hbn HRZ.out HF.out HL.out (HC.out.later HOZ.out) (mem_of_mix HMZ.out HOK.out)).mono ?_
    rintro er w1 ⟨rfl, zs, hr1, hm1, hs1, ho1⟩
    have HR1 := Zd hr1
    have HM1 := Zd hm1
    have HS1 := Zd hs1
    have HO1 := Zd ho1
    clear hr1 hm1 hs1 ho1
    go_wp2
    refine ⟨⟨b, b + 20, t + 1, zs, hbn, by omega, by omega, ?_, rfl, by go_num, HR1.out, HMZ.out.trans (HM1.out.wide (by omega) hbn), pieces_add HPZ.out hat.out (by omega) HM1.out HS1.out, HOZ.out.trans HO1.out⟩, by simp [intOf]; omega⟩
    have := hat.out
    show b = (t + 1) * 20
    omega
  . go_wp2_with fail
    refine (insertion_nat base g n cp a n f caps c ok ys _ hn han (Nat.le_refl _) HRZ.out HF.out HL.out (HC.out.later HOZ.out) (mem_of_mix HMZ.out HOK.out)).mono ?_
    rintro er w1 ⟨rfl, zs, hr1, hm1, hs1, ho1⟩
    have HR1 := Zd hr1
    have HM1 := Zd (HMZ.out.trans (hm1.wide (by omega) (Nat.le_refl _)))
    have HP1 := Zd (pieces_from HPZ.out hat.out (by omega) hm1 hs1)
    have HO1 := Zd (HOZ.out.trans ho1)
    clear hr1 hm1 hs1 ho1 hat HRZ HMZ HPZ HOZ
    go_wp2
    go_loopw [6] (fun u wr => ∃ (bs : Nat) (ys : List Int), 20 <= bs /\ bs <= 2097152 /\ u = .int .i64 bs /\ RowI base g n cp wr ys /\ Mix 0 n xs ys /\ PiecesFrom (ltOf c) bs 0 n ys /\ Only g w wr) (fun u _ => n - (intOf u).toNat)
    case atStart => exact ⟨20, zs, by omega, by omega, rfl, HR1.out, HM1.out, HP1.out, HO1.out⟩
    case round =>
     obtain ⟨bs, ys, hs1, hs2, rfl, hr, hm, hp, ho⟩ := hrel
     have HRZ := Zd hr
     have HMZ := Zd hm
     have HPZ := Zd hp
     have HOZ := Zd ho
     clear hr hm hp ho HR1 HM1 HP1 HO1
     by_cases hbs : bs < n
     . go_wp2
       obtain ⟨wo, rfl⟩ : ∃ wo : World, wo = wr := ⟨_, rfl⟩
       go_loopw [7, 8] (fun u v wi => ∃ (a b t : Nat) (zs : List Int), a <= n /\ b <= a + 2 * bs /\ a + 2 * bs <= b /\ Hid (a = t * (2 * bs)) /\ u = .int .i64 a /\ v = .int .i64 b /\ RowI base g n cp wi zs /\ Mix 0 n xs zs /\ Pieces (ltOf c) (2 * bs) t zs /\ PiecesFrom (ltOf c) bs a n zs /\ Only g w wi) (fun u _ _ => n - (intOf u).toNat)
       case atStart => exact ⟨0, 2 * bs, 0, ys, by omega, by omega, by omega, show 0 = 0 * (2 * bs) by simp, rfl, by go_num, HRZ.out, HMZ.out, fun t ht => by omega, HPZ.out, HOZ.out⟩
       case round =>
        obtain ⟨a, b, t, zs, han, hb1, hb2, hat, rfl, rfl, hr, hm, hp, hq, ho⟩ := hrel
        have HR1 := Zd hr
        have HM1 := Zd hm
        have HP1 := Zd hp
        have HQ1 := Zd hq
        have HO1 := Zd ho
        clear hr hm hp hq ho
        by_cases hbn : b <= n
        . have HTW := Zd (from_two HQ1.out)
          have e1 : min (a + bs) n = a + bs := by omega
          have e2 : min (a + bs + bs) n = b := by omega
          rw [e1, e2] at HTW
          clear e1 e2
          go_wp2_with fail
          refine (HSYM.out a (a + bs) b _ _ _ zs _ (by omega) (by omega) (by omega) (by omega) (by omega) (by omega) hbn HR1.out (HC.out.later HO1.out) (mem_of_mix HM1.out HOK.out) HTW.out.1 HTW.out.2).mono ?_
          rintro er w2 ⟨rfl, vs, hr2, hm2, hs2', ho2⟩
          have HR2 := Zd hr2
          have HM2 := Zd hm2
          have HS2 := Zd hs2'
          have HO2 := Zd ho2
          clear hr2 hm2 hs2' ho2
          go_wp2
          refine ⟨⟨b, b + 2 * bs, t + 1, vs, hbn, by omega, by omega, ?_, rfl, by go_num, HR2.out, HM1.out.trans (HM2.out.wide (by omega) hbn), pieces_add HP1.out hat.out (by omega) HM2.out HS2.out, from_step HQ1.out (by omega) HM2.out, HO1.out.trans HO2.out⟩, by simp [intOf]; omega⟩
          have := hat.out
          show b = (t + 1) * (2 * bs)
          rw [Nat.add_mul, Nat.one_mul]
          omega
        . have HTW := Zd (from_two HQ1.out)
          by_cases hmn : a + bs < n
          . have e1 : min (a + bs) n = a + bs := by omega
            have e2 : min (a + bs + bs) n = n := by omega
            rw [e1, e2] at HTW
            clear e1 e2
            have g1 : (a : Int) + (bs : Int) < (n : Int) := by omega
            go_wp2_with fail
            refine (HSYM.out a (a + bs) n _ _ _ zs _ (by omega) (by omega) (by omega) (by omega) (by omega) (by omega) (Nat.le_refl _) HR1.out (HC.out.later HO1.out) (mem_of_mix HM1.out HOK.out) HTW.out.1 HTW.out.2).mono ?_
            rintro er w2 ⟨rfl, vs, hr2, hm2, hs2', ho2⟩
            have HR2 := Zd hr2
            have HM2 := Zd hm2
            have HS2 := Zd hs2'
            have HO2 := Zd ho2
            clear hr2 hm2 hs2' ho2
            go_wp2
            refine ⟨⟨2 * bs, vs, by omega, by omega, by go_num, HR2.out, HM1.out.trans (HM2.out.wide (by omega) (Nat.le_refl _)), pieces_from HP1.out hat.out (by omega) HM2.out HS2.out, HO1.out.trans HO2.out⟩, by simp [intOf]; omega⟩
          . have e1 : min (a + bs) n = n := by omega
            rw [e1] at HTW
            clear e1
            have g1 : ¬ ((a : Int) + (bs : Int) < (n : Int)) := by omega
            go_wp2
            refine ⟨⟨2 * bs, zs, by omega, by omega, by go_num, HR1.out, HM1.out, pieces_from HP1.out hat.out (by omega) (Mix.refl _ _ _) HTW.out.1, HO1.out⟩, by simp [intOf]; omega⟩
     . go_wp2
       go_end0
       refine ⟨rfl, ys, HRZ.out, HMZ.out, ?_, HOZ.out⟩
       have h := (from_two HPZ.out).1
       rw [Nat.zero_add, show min bs n = n by omega] at h
       exact h
theorem SortStable_any (base g n cp : Nat) (f : FuncId) (caps : Array Value) (c : Int -> Int -> Int) (ok : Int -> Prop) (xs : List Int) (w : World) (hn : n <= 1048576) (hR : RowI base g n cp w xs)
  (hf : Enters f) (hl : Less (ltOf c)) (hC : Cmps g w f caps c ok) (hok : ∀ x ∈ xs, ok x) :
  Calls Tryz.prog 220 #[.slice (some ⟨g, 0, none⟩) n cp, .func (.func f) #[] caps] w (Sorted base g n cp 0 n (ltOf c) xs w) := by
 have HS := Zd (stable_nat base g n cp f caps c ok xs w hn hR hf hl hC hok)
 clear hR hf hl hC hok
 go_enter Tryz.func220, Tryz.ntmps220
 go_wp2_with fail
 refine HS.out.mono ?_
 rintro er w1 ⟨rfl, h⟩
 go_wp2
 go_end0
 exact ⟨rfl, h⟩
def cutsS (l : List WtP) : List Int -> List WtP
 | [] => l
 | t :: r => cutsS (cutS l t).1 r
theorem cutS_len (l : List WtP) (t : Int) : (cutS l t).1.length = l.length := by
 unfold cutS; split <;> simp
theorem cutsS_len : ∀ (ts : List Int) (l : List WtP), (cutsS l ts).length = l.length
 | [], _ => rfl
 | t :: r, l => by rw [cutsS, cutsS_len r, cutS_len]
theorem cutsS_snoc : ∀ (ts : List Int) (l : List WtP) (t : Int), cutsS l (ts ++ [t]) = (cutS (cutsS l ts) t).1
 | [], _, _ => rfl
 | _ :: r, _, t => cutsS_snoc r _ t
theorem cutsS_at : ∀ (ts : List Int) (l : List WtP), (∀ t ∈ ts, inL l.length t /\ (l.getD t.toNat WtP.none).on = true) -> ts.Nodup -> ∀ k : Nat, k < l.length -> (cutsS l ts).getD k WtP.none = if (k : Int) ∈ ts then WtP.none else l.getD k WtP.none
 | [], l, _, _, k, _ => by simp [cutsS]
 | t :: r, l, h, hn, k, hk => by
   have ht := h t (List.mem_cons_self ..)
   have hnd := List.nodup_cons.1 hn
   have he : (cutS l t).1 = l.set t.toNat WtP.none := by unfold cutS; rw [if_pos ⟨ht.1, ht.2⟩]
   have h1 := ht.1
   unfold inL at h1
   rw [cutsS, cutsS_at r _ ?_ hnd.2 k (by rw [cutS_len]; exact hk), he]
   . by_cases hm : (k : Int) ∈ r
     . rw [if_pos hm, if_pos (List.mem_cons_of_mem _ hm)]
     . rw [if_neg hm]
       by_cases hkt : (k : Int) = t
       . rw [if_pos (by rw [hkt]; exact List.mem_cons_self ..)]
         have : t.toNat = k := by omega
         rw [this]
         simp [List.getD, hk]
       . rw [if_neg (by rw [List.mem_cons]; exact fun h' => h'.elim hkt hm)]
         have : t.toNat ≠ k := by omega
         simp [List.getD, this]
   . intro s hs
     have h2 := h s (List.mem_cons_of_mem _ hs)
     have hst : s ≠ t := by rintro rfl; exact hnd.1 hs
     have h3 := h2.1
     unfold inL at h3
     refine ⟨by rw [cutS_len]; exact h2.1, ?_⟩
     rw [he]
     have : t.toNat ≠ s.toNat := by omega
     have e : (l.set t.toNat WtP.none).getD s.toNat WtP.none = l.getD s.toNat WtP.none := by simp [List.getD, this]
     rw [e]
     exact h2.2
theorem tellS_at (f : Int -> Resr) : ∀ (ts : List Int) (d : List Resr), ts.Nodup -> ∀ k : Nat, k < d.length -> (tellS d (ts.map fun t => (t, f t))).getD k Resr.none = if (k : Int) ∈ ts then f k else d.getD k Resr.none
 | [], d, _, k, _ => by simp [tellS]
 | t :: r, d, hn, k, hk => by
   have hnd := List.nodup_cons.1 hn
   rw [List.map_cons, tellS]
   have hl : (if inL d.length t then d.set t.toNat (f t) else d).length = d.length := by split <;> simp
   rw [tellS_at f r _ hnd.2 k (by rw [hl]; exact hk)]
   by_cases hm : (k : Int) ∈ r
   . rw [if_pos hm, if_pos (List.mem_cons_of_mem _ hm)]
   . rw [if_neg hm]
     by_cases hkt : (k : Int) = t
     . have hi : inL d.length t := by unfold inL; omega
       have : t.toNat = k := by omega
       simp only [if_pos hi]
       rw [if_pos (by rw [hkt]; exact List.mem_cons_self ..), this, <- hkt]
       simp [List.getD, hk]
     . have hn' : ¬ (k : Int) ∈ t :: r := by rw [List.mem_cons]; exact fun h' => h'.elim hkt hm
       simp only [if_neg hn']
       by_cases hi : inL d.length t
       . simp only [if_pos hi]
         unfold inL at hi
         have : t.toNat ≠ k := by omega
         simp [List.getD, this]
       . simp only [if_neg hi]
theorem onsS_nodup (l : List WtP) (handle : Int) : (onsS l handle).Nodup := by
 unfold onsS
 rw [List.nodup_iff_pairwise_ne, List.pairwise_map]
 have h := (List.nodup_range (n := l.length)).filter (fun t : Nat => onB handle (l.getD t WtP.none))
 exact h.imp (fun h => by omega)
theorem onsS_mem (l : List WtP) (handle t : Int) : t ∈ onsS l handle ↔ inL l.length t /\ onB handle (l.getD t.toNat WtP.none) = true := by
 unfold onsS inL
 simp only [List.mem_map, List.mem_filter, List.mem_range]
 constructor
 . rintro ⟨a, ⟨h1, h2⟩, rfl⟩
   exact ⟨by omega, by simpa using h2⟩
 . rintro ⟨h1, h2⟩
   exact ⟨t.toNat, ⟨by omega, h2⟩, by omega⟩
theorem onB_on {handle : Int} {w : WtP} (h : onB handle w = true) : w.on = true := by
 unfold onB at h
 simp only [Bool.and_eq_true] at h
 exact h.1
theorem ext_getD {α : Type} {a b : List α} (d : α) (h : a.length = b.length) (hk : ∀ k, k < a.length -> a.getD k d = b.getD k d) : a = b := by
 refine List.ext_getElem h fun k h1 h2 => ?_
 have := hk k h1
 simpa [List.getD, h1, h2] using this
theorem shut_waits (l : List WtP) (handle : Int) (ts : List Int) (hp : ts.Perm (onsS l handle)) : cutsS l ts = l.map (freeW handle) := by
 have hm : ∀ t, t ∈ ts ↔ inL l.length t /\ onB handle (l.getD t.toNat WtP.none) = true := fun t => by rw [hp.mem_iff, onsS_mem]
 refine ext_getD WtP.none (by rw [cutsS_len, List.length_map]) fun k hk => ?_
 rw [cutsS_len] at hk
 rw [cutsS_at ts l (fun t ht => ⟨((hm t).1 ht).1, onB_on ((hm t).1 ht).2⟩) (hp.nodup_iff.2 (onsS_nodup l handle)) k hk]
 have e : (l.map (freeW handle)).getD k WtP.none = freeW handle (l.getD k WtP.none) := by simp [List.getD, hk]
 rw [e]
 unfold freeW
 by_cases h : onB handle (l.getD k WtP.none) = true
 . rw [if_pos h, if_pos ((hm k).2 ⟨by unfold inL; omega, by simpa using h⟩)]
 . rw [if_neg h, if_neg (fun h' => h (by simpa using ((hm k).1 h').2))]
def lateS (l : List WtP) (handle : Int) (t : Int) : Resr := (endedS l t (firstV (isH handle) (l.getD t.toNat WtP.none).cs 0) 9 0).2
def toldS (l : List WtP) (handle : Int) (ts : List Int) : List TldP := ts.map fun t => (t, lateS l handle t)
theorem shut_done (l : List WtP) (handle : Int) (d : List Resr) (ts : List Int) (hp : ts.Perm (onsS l handle)) : tellS d (toldS l handle ts) = shutDone handle l d := by
 have hm : ∀ t, t ∈ ts ↔ inL l.length t /\ onB handle (l.getD t.toNat WtP.none) = true := fun t => by rw [hp.mem_iff, onsS_mem]
 refine ext_getD Resr.none (by rw [tellS_len]; simp [shutDone]) fun k hk => ?_
 rw [tellS_len] at hk
 unfold toldS
 rw [tellS_at (lateS l handle) ts d (hp.nodup_iff.2 (onsS_nodup l handle)) k hk]
 have e : (shutDone handle l d).getD k Resr.none = if k < l.length /\ onB handle (l.getD k WtP.none) = true then lateS l handle k else d.getD k Resr.none := by
  simp only [shutDone, List.getD, List.getElem?_mapIdx, List.getElem?_eq_getElem hk, Option.map_some, Option.getD_some, lateS, Int.toNat_natCast]
  congr
 rw [e]
 by_cases h : k < l.length /\ onB handle (l.getD k WtP.none) = true
 . rw [if_pos h, if_pos ((hm k).2 ⟨by unfold inL; omega, by simpa using h.2⟩)]
 . rw [if_neg h, if_neg (fun h' => h (by have := (hm k).1 h'; unfold inL at this; exact ⟨by omega, by simpa using this.2⟩))]
end Go.Proofs.YtieglgahfeecbaaGreatDoor
