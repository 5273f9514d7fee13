/- What a word is: the document's What, walked. -/
import Derived.Test.YtknlhkkpheahlaaDoorWhat
namespace Go.Proofs.YtknlhkkpheahlaaDoor
open Go.RowKit Go.Sort

set_option maxHeartbeats 8000000 in
set_option maxRecDepth 100000 in
theorem rWhat_any (c : Cfg) (a : Int) (w : World) (hcf : CfgIn w c) :
    Calls Tryd.prog 50 #[cfgV c, .int .i64 a] w fun e w' => e = .returned (whatV (whatS c a)) ∧ Below w.heap.size w w' := by
  have HC := Lib.hid hcf
  have HB := Lib.hid ((Below.refl w.heap.size w).alloc (Nat.le_refl _) (.cells #[.int .i64 c.kind, .int .i64 c.threads, .int .i64 c.chans, .int .i64 c.cap, .int .i64 c.nodes, .int .i64 c.retire, .int .i64 c.patience, .int .i64 c.tags, .int .i64 c.seqs, .int .i64 c.gens, .slice c.sa c.start.length c.sc] 45))
  have HCW := Lib.hid (HC.out.below HB.out)
  have HX := Lib.hid (BoxC.new w c)
  have HT := Lib.hid (fun W h => rTotal_any c W h)
  have HSZ := Lib.hid (fun W h => rSize_any c W h)
  clear hcf
  unfold cfgV
  unfold cfgV at HT HSZ
  have hx := HX.out.all
  obtain ⟨x0, x1, x2, x3, x4, x5, x6, x7, x8, x9, x10⟩ := hx
  have HTH := Lib.hid (rfl : c.threads = c.threads)
  by_cases h0 : a < 0
  · have HW := Lib.hid (what_none (c := c) (Or.inl h0))
    go_enter Tryd.func50, Tryd.ntmps50
    go_wp2_with fail
    go_ret3
    rw [HW.out]
    exact ⟨rfl, HB.out⟩
  have h0' : 0 ≤ a := by omega
  by_cases ht : totalS c ≤ a
  · have HW := Lib.hid (what_none (c := c) (Or.inr ht))
    go_enter Tryd.func50, Tryd.ntmps50
    go_wp2_with (first | (go_at_call 82; refine (HT.out _ HCW.out).mono ?_; rintro e w1 ⟨rfl, hb1⟩; have HB1 := Lib.hid (HB.out.trans (hb1.mono HB.out.size)); obtain ⟨y0, y1, y2, y3, y4, y5, y6, y7, y8, y9, y10⟩ := (HX.out.below hb1).all; (try rw [HTH.out] at y1); have HCX := Lib.hid (HCW.out.below hb1); clear hb1 x0 x1 x2 x3 x4 x5 x6 x7 x8 x9 x10))
    go_ret3
    rw [HW.out]
    exact ⟨rfl, HB1.out⟩
  have ht' : a < totalS c := by omega
  have hk := chk_of_total h0' ht'
  have hab := total_b hk
  have ha : a ≤ 4600000 := by omega
  by_cases h3 : a < 3
  · have HW := Lib.hid (what_once (c := c) h0' ht' h3)
    have q0 : a - 3 < 0 := by omega
    clear hab h3
    go_enter Tryd.func50, Tryd.ntmps50
    go_wp2_with (first | (go_at_call 82; refine (HT.out _ HCW.out).mono ?_; rintro e w1 ⟨rfl, hb1⟩; have HB1 := Lib.hid (HB.out.trans (hb1.mono HB.out.size)); obtain ⟨y0, y1, y2, y3, y4, y5, y6, y7, y8, y9, y10⟩ := (HX.out.below hb1).all; (try rw [HTH.out] at y1); have HCX := Lib.hid (HCW.out.below hb1); clear hb1 x0 x1 x2 x3 x4 x5 x6 x7 x8 x9 x10))
    go_ret3
    rw [HW.out]
    exact ⟨ret3 (Int.add_comm _ _) rfl rfl, HB1.out⟩
  obtain ⟨g1, g2, g3, g4, g5, g6, g7, g8, g9, g10, g11⟩ := chk_kind hk
  obtain ⟨s1, s2⟩ := size_b hk
  have HWS : RowKit.Hid (whatS c a = if a < 3 + c.threads then (4, a - 3, 0)
      else if a < 3 + c.threads * 6 then (5, (a - (3 + c.threads)) / 5, (a - (3 + c.threads)) % 5)
      else if a < 3 + c.threads * 7 then (6, a - (3 + c.threads * 6), 0)
      else if a < 3 + c.threads * 8 then (7, a - (3 + c.threads * 7), 0)
      else if a < 3 + c.threads * 9 then (8, a - (3 + c.threads * 8), 0)
      else if (a - (3 + c.threads * 9)) % (1 + sizeS c) = 0 then (9, (a - (3 + c.threads * 9)) / (1 + sizeS c), 0)
      else (10, (a - (3 + c.threads * 9)) / (1 + sizeS c), (a - (3 + c.threads * 9)) % (1 + sizeS c) - 1)) := Lib.hid (by unfold whatS; rw [if_neg (by omega), if_neg h3])
  have z0 : ¬ a - 3 < 0 := by omega
  clear hab g3 g4 g5 g6 g7 g8 g9 g10 g11 h0 ht hk h3
  generalize sizeS c = sz at *
  generalize hth : c.threads = th at *
  have HTH := Lib.hid hth
  clear hth
  by_cases h0 : a - 3 < th
  · have HV := Lib.hid (show whatS c a = (4, a - 3, 0) by rw [HWS.out]; rw [if_pos (by omega)])
    go_enter Tryd.func50, Tryd.ntmps50
    go_wp2_with (first | (go_at_call 82; refine (HT.out _ HCW.out).mono ?_; rintro e w1 ⟨rfl, hb1⟩; have HB1 := Lib.hid (HB.out.trans (hb1.mono HB.out.size)); obtain ⟨y0, y1, y2, y3, y4, y5, y6, y7, y8, y9, y10⟩ := (HX.out.below hb1).all; (try rw [HTH.out] at y1); have HCX := Lib.hid (HCW.out.below hb1); clear hb1 x0 x1 x2 x3 x4 x5 x6 x7 x8 x9 x10))
    go_ret3
    rw [HV.out]
    exact ⟨ret3 rfl rfl rfl, HB1.out⟩
  by_cases h1 : a - 3 < 6 * th
  · have HV := Lib.hid (show whatS c a = (5, (a - (3 + th)) / 5, (a - (3 + th)) % 5) by rw [HWS.out]; rw [if_neg (by omega)]; rw [if_pos (by omega)])
    have q2 : 0 ≤ a - 3 - th := by omega
    go_enter Tryd.func50, Tryd.ntmps50
    go_wp2_with (first | (go_at_call 82; refine (HT.out _ HCW.out).mono ?_; rintro e w1 ⟨rfl, hb1⟩; have HB1 := Lib.hid (HB.out.trans (hb1.mono HB.out.size)); obtain ⟨y0, y1, y2, y3, y4, y5, y6, y7, y8, y9, y10⟩ := (HX.out.below hb1).all; (try rw [HTH.out] at y1); have HCX := Lib.hid (HCW.out.below hb1); clear hb1 x0 x1 x2 x3 x4 x5 x6 x7 x8 x9 x10))
    go_ret3
    rw [HV.out]
    exact ⟨ret3 rfl (show (a - 3 - th) / 5 = (a - (3 + th)) / 5 by omega) (show (a - 3 - th) % 5 = (a - (3 + th)) % 5 by omega), HB1.out⟩
  by_cases h2 : a - 3 < 7 * th
  · have HV := Lib.hid (show whatS c a = (6, a - (3 + th * 6), 0) by rw [HWS.out]; rw [if_neg (by omega)]; rw [if_neg (by omega)]; rw [if_pos (by omega)])
    go_enter Tryd.func50, Tryd.ntmps50
    go_wp2_with (first | (go_at_call 82; refine (HT.out _ HCW.out).mono ?_; rintro e w1 ⟨rfl, hb1⟩; have HB1 := Lib.hid (HB.out.trans (hb1.mono HB.out.size)); obtain ⟨y0, y1, y2, y3, y4, y5, y6, y7, y8, y9, y10⟩ := (HX.out.below hb1).all; (try rw [HTH.out] at y1); have HCX := Lib.hid (HCW.out.below hb1); clear hb1 x0 x1 x2 x3 x4 x5 x6 x7 x8 x9 x10))
    go_ret3
    rw [HV.out]
    exact ⟨ret3 rfl (show a - 3 - 6 * th = a - (3 + th * 6) by omega) rfl, HB1.out⟩
  by_cases h3 : a - 3 < 8 * th
  · have HV := Lib.hid (show whatS c a = (7, a - (3 + th * 7), 0) by rw [HWS.out]; rw [if_neg (by omega)]; rw [if_neg (by omega)]; rw [if_neg (by omega)]; rw [if_pos (by omega)])
    go_enter Tryd.func50, Tryd.ntmps50
    go_wp2_with (first | (go_at_call 82; refine (HT.out _ HCW.out).mono ?_; rintro e w1 ⟨rfl, hb1⟩; have HB1 := Lib.hid (HB.out.trans (hb1.mono HB.out.size)); obtain ⟨y0, y1, y2, y3, y4, y5, y6, y7, y8, y9, y10⟩ := (HX.out.below hb1).all; (try rw [HTH.out] at y1); have HCX := Lib.hid (HCW.out.below hb1); clear hb1 x0 x1 x2 x3 x4 x5 x6 x7 x8 x9 x10))
    go_ret3
    rw [HV.out]
    exact ⟨ret3 rfl (show a - 3 - 7 * th = a - (3 + th * 7) by omega) rfl, HB1.out⟩
  by_cases h4 : a - 3 < 9 * th
  · have HV := Lib.hid (show whatS c a = (8, a - (3 + th * 8), 0) by rw [HWS.out]; rw [if_neg (by omega)]; rw [if_neg (by omega)]; rw [if_neg (by omega)]; rw [if_neg (by omega)]; rw [if_pos (by omega)])
    go_enter Tryd.func50, Tryd.ntmps50
    go_wp2_with (first | (go_at_call 82; refine (HT.out _ HCW.out).mono ?_; rintro e w1 ⟨rfl, hb1⟩; have HB1 := Lib.hid (HB.out.trans (hb1.mono HB.out.size)); obtain ⟨y0, y1, y2, y3, y4, y5, y6, y7, y8, y9, y10⟩ := (HX.out.below hb1).all; (try rw [HTH.out] at y1); have HCX := Lib.hid (HCW.out.below hb1); clear hb1 x0 x1 x2 x3 x4 x5 x6 x7 x8 x9 x10))
    go_ret3
    rw [HV.out]
    exact ⟨ret3 rfl (show a - 3 - 8 * th = a - (3 + th * 8) by omega) rfl, HB1.out⟩
  have q0 : 0 ≤ a - 3 - 9 * th := by omega
  have q1 : 0 < 1 + sz := by omega
  have HU := Lib.hid (show a - 3 - 9 * th = a - (3 + th * 9) by omega)
  generalize hu : a - 3 - 9 * th = u at *
  have q2 : u ≤ 4600000 := by omega
  have q3 : 0 ≤ u % (1 + sz) := Int.emod_nonneg _ (by omega)
  have q4 : u % (1 + sz) < 1 + sz := Int.emod_lt_of_pos _ q1
  by_cases hr : u % (1 + sz) = 0
  · have HV := Lib.hid (show whatS c a = (9, u / (1 + sz), 0) by rw [HWS.out, HU.out] at *; rw [if_neg (by omega)]; rw [if_neg (by omega)]; rw [if_neg (by omega)]; rw [if_neg (by omega)]; rw [if_neg (by omega)]; rw [if_pos (HU.out ▸ hr)])
    have b1 : (u % (1 + sz) == 0) = true := by simp [hr]
    clear hr
    go_enter Tryd.func50, Tryd.ntmps50
    go_wp2_with (first | (go_at_call 82; refine (HT.out _ HCW.out).mono ?_; rintro e w1 ⟨rfl, hb1⟩; have HB1 := Lib.hid (HB.out.trans (hb1.mono HB.out.size)); obtain ⟨y0, y1, y2, y3, y4, y5, y6, y7, y8, y9, y10⟩ := (HX.out.below hb1).all; (try rw [HTH.out] at y1); have HCX := Lib.hid (HCW.out.below hb1); clear hb1 x0 x1 x2 x3 x4 x5 x6 x7 x8 x9 x10) | (go_at_call 83; refine (HSZ.out _ HCX.out).mono ?_; rintro e w2 ⟨rfl, hb2⟩; have HB2 := Lib.hid (HB1.out.trans (hb2.mono HB1.out.size)); clear hb2))
    go_quiet (fail)
    go_wp2
    go_ret3
    refine ⟨?_, Below.drewN' HB2.out _⟩
    rw [HV.out]
    rfl
  · have HV := Lib.hid (show whatS c a = (10, u / (1 + sz), u % (1 + sz) - 1) by rw [HWS.out, HU.out] at *; rw [if_neg (by omega)]; rw [if_neg (by omega)]; rw [if_neg (by omega)]; rw [if_neg (by omega)]; rw [if_neg (by omega)]; rw [if_neg (HU.out ▸ hr)])
    have b1 : (u % (1 + sz) == 0) = false := by simp [hr]
    clear hr
    go_enter Tryd.func50, Tryd.ntmps50
    go_wp2_with (first | (go_at_call 82; refine (HT.out _ HCW.out).mono ?_; rintro e w1 ⟨rfl, hb1⟩; have HB1 := Lib.hid (HB.out.trans (hb1.mono HB.out.size)); obtain ⟨y0, y1, y2, y3, y4, y5, y6, y7, y8, y9, y10⟩ := (HX.out.below hb1).all; (try rw [HTH.out] at y1); have HCX := Lib.hid (HCW.out.below hb1); clear hb1 x0 x1 x2 x3 x4 x5 x6 x7 x8 x9 x10) | (go_at_call 83; refine (HSZ.out _ HCX.out).mono ?_; rintro e w2 ⟨rfl, hb2⟩; have HB2 := Lib.hid (HB1.out.trans (hb2.mono HB1.out.size)); clear hb2))
    go_quiet (fail)
    go_wp2
    go_ret3
    refine ⟨?_, Below.drewN' HB2.out _⟩
    rw [HV.out]
    rfl

end Go.Proofs.YtknlhkkpheahlaaDoor
