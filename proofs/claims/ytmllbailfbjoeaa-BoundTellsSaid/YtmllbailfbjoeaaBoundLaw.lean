/- The laws of the bounds: what they come to, at every shape. -/
import Derived.Test.YtmllbailfbjoeaaBound
namespace Go.Proofs.Ytmllbailfbjoeaa
open Go.RowKit Go.Sort

def smallC : Cfg := ⟨1, 2, 0, 1, 3, 2, 1, 9, 9, 0, [], none, 0⟩
theorem small_chk : chkB smallC = true := by decide
theorem small_in (w : World) : CfgIn w smallC := ⟨.inl rfl, by decide⟩
theorem small_call : callS smallC = 173 := by decide
theorem small_away : awayS smallC = 4 := by decide
theorem small_slope : slopeS smallC = 56 := by decide
theorem small_base : baseS smallC = 61 := by decide

set_option maxHeartbeats 400000 in
theorem small_any (w : World) : Calls Try.prog 64 #[] w fun e w' => e = .returned (.agg #[.int .i64 1, .int .i64 2, .int .i64 0, .int .i64 1, .int .i64 3, .int .i64 2, .int .i64 1, .int .i64 9, .int .i64 9, .int .i64 0, .slice none 0 0]) ∧ Below w.heap.size w w' := by
  go_enter Try.func64, Try.ntmps64
  go_wp2
  refine bodyPost_ret (v := .agg #[.int .i64 1, .int .i64 2, .int .i64 0, .int .i64 1, .int .i64 3, .int .i64 2, .int .i64 1, .int .i64 9, .int .i64 9, .int .i64 0, .slice none 0 0]) (by simp [results, Try.results64, go_sem]) rfl ⟨rfl, ?_⟩
  exact (Below.refl _ _).alloc (Nat.le_refl _) _

theorem Call_small (w : World) : Calls Try.prog 12 #[cfgV smallC] w fun e w' => e = .returned (.int .i64 173) ∧ Below w.heap.size w w' := by
  rw [← small_call]; exact Call_any smallC w (small_in w)
theorem Away_small (w : World) : Calls Try.prog 21 #[cfgV smallC] w fun e w' => e = .returned (.int .i64 4) ∧ Below w.heap.size w w' := by
  rw [← small_away]; exact Away_any smallC w (small_in w)
theorem Slope_small (w : World) : Calls Try.prog 13 #[cfgV smallC] w fun e w' => e = .returned (.int .i64 56) ∧ Below w.heap.size w w' := by
  rw [← small_slope]; exact Slope_any smallC w (small_in w)
theorem Base_small (w : World) : Calls Try.prog 14 #[cfgV smallC] w fun e w' => e = .returned (.int .i64 61) ∧ Below w.heap.size w w' := by
  rw [← small_base]; exact Base_any smallC w (small_in w)

set_option maxHeartbeats 1000000 in
theorem awake21_any (w : World) : Calls Try.prog 11 #[] w fun e w' => e = .returned (.bool true) ∧ Below w.heap.size w w' := by
  go_enter Try.func11, Try.ntmps11
  go_wp2_with fail
  refine (small_any _).mono ?_
  rintro e w1 ⟨rfl, hb1⟩
  go_wp2_with fail
  refine (Call_small _).mono ?_
  rintro e w2 ⟨rfl, hb2⟩
  go_wp2_with fail
  refine (small_any _).mono ?_
  rintro e w3 ⟨rfl, hb3⟩
  go_wp2_with fail
  refine (Away_small _).mono ?_
  rintro e w4 ⟨rfl, hb4⟩
  go_wp2_with fail
  refine (small_any _).mono ?_
  rintro e w5 ⟨rfl, hb5⟩
  go_wp2_with fail
  refine (Slope_small _).mono ?_
  rintro e w6 ⟨rfl, hb6⟩
  go_wp2_with fail
  refine (small_any _).mono ?_
  rintro e w7 ⟨rfl, hb7⟩
  go_wp2_with fail
  refine (Base_small _).mono ?_
  rintro e w8 ⟨rfl, hb8⟩
  go_wp2
  go_ret
  have h2 := hb1.trans (hb2.mono hb1.size)
  have h3 := h2.trans (hb3.mono h2.size)
  have h4 := h3.trans (hb4.mono h3.size)
  have h5 := h4.trans (hb5.mono h4.size)
  have h6 := h5.trans (hb6.mono h5.size)
  have h7 := h6.trans (hb7.mono h6.size)
  exact ⟨rfl, h7.trans (hb8.mono h7.size)⟩

theorem base_eq {c : Cfg} (h : chkB c = true) : rbaseS c = baseS c := by
  simp only [rbaseS, baseS, callS, roundsS, roundS, slopeS, sizeS, stateS, h, if_true]
  split <;> grind

theorem base_pos {c : Cfg} (h : chkB c = true) : 0 < baseS c := by
  rw [← base_eq h]
  obtain ⟨g1, g2, g3, g4, g5, g6, g7, g8, g9, g10, g11⟩ := chk_kind h
  obtain ⟨p1, p2⟩ := prod_b c.chans (1 + c.cap) 8 17 (by omega) (by omega) (by omega) (by omega)
  obtain ⟨p3, p4⟩ := prod_b (c.patience + 3) (6 + 2 * (1 + c.chans * (1 + c.cap))) 7 400 (by omega) (by omega) (by omega) (by omega)
  obtain ⟨p5, p6⟩ := prod_b (c.patience + 3) (6 + 2 * (1 + c.cap)) 7 400 (by omega) (by omega) (by omega) (by omega)
  simp only [rbaseS, h, if_true]
  split <;> omega

theorem base_eq_any (c : Cfg) : rbaseS c = baseS c := by
  cases h : chkB c
  · simp [rbaseS, baseS, h]
  · exact base_eq h

theorem call_line {c : Cfg} (h : chkB c = true) : callS c = slopeS c * c.threads + baseS c := by
  simp only [baseS, h, if_true]; omega

set_option maxHeartbeats 1000000 in
theorem All_any (c : Cfg) (w : World) (hcf : CfgIn w c) :
    Calls Try.prog 23 #[cfgV c] w fun e w' => e = .returned (.int .i64 (awayS c * c.threads)) ∧ Below w.heap.size w w' := by
  have HC := Lib.hid hcf
  clear hcf
  unfold cfgV
  have ha : chkB c = true → 0 ≤ awayS c * c.threads ∧ awayS c * c.threads ≤ 96 * 64 := fun h => by
    obtain ⟨g1, g2, _⟩ := chk_kind h
    obtain ⟨r1, r2⟩ := away_b h
    exact prod_b _ _ _ _ r1 r2 (by omega) g2
  have hz : chkB c = false → awayS c = 0 := fun h => by simp [awayS, h]
  have HA := Lib.hid ha
  have HZ := Lib.hid hz
  clear ha hz
  go_enter Try.func23, Try.ntmps23
  go_wp2
  obtain ⟨c0, c1, c2, c3, c4, c5, c6, c7, c8, c9, c10⟩ := (BoxC.new w c).all
  have k0 := cell_regrown c0
  have k1 := cell_regrown c1
  have k2 := cell_regrown c2
  have k3 := cell_regrown c3
  have k4 := cell_regrown c4
  have k5 := cell_regrown c5
  have k6 := cell_regrown c6
  have k7 := cell_regrown c7
  have k8 := cell_regrown c8
  have k9 := cell_regrown c9
  have k10 := cell_regrown c10
  clear c0 c1 c2 c3 c4 c5 c6 c7 c8 c9 c10
  refine wp_region_quiet_below (by kernel_rfl) (by kernel_rfl) ?_
  repeat (quiet_step ((first | (go_at_call 21; exact Calls.regrown_of (Away_any c _ ((HC.out.alloc _).below (below_regrown _ _ _)))))))
  refine wpQuiet_nil ?_
  intro _ hw'
  obtain ⟨⟨dq, osq⟩, hw''⟩ := hw'
  subst hw''
  go_wp2
  go_ret
  refine ⟨ret_int ?_, ((Below.refl _ _).alloc (Nat.le_refl _) _).trans ((below_regrown _ dq osq).mono (by simp))⟩
  cases h : chkB c
  · rw [HZ.out h, Int.zero_mul]; exact IntWalk.i64_in 0 (by omega)
  · have := HA.out h
    exact IntWalk.i64_in _ (by omega)

theorem away_no {c : Cfg} (h : chkB c = false) : awayS c = 0 := by simp [awayS, h]
theorem All_no (c : Cfg) (w : World) (hcf : CfgIn w c) (h : chkB c = false) :
    Calls Try.prog 23 #[cfgV c] w fun e w' => e = .returned (.int .i64 0) ∧ Below w.heap.size w w' := by
  have := All_any c w hcf
  rwa [away_no h, Int.zero_mul] at this
theorem rAway_no (c : Cfg) (w : World) (hcf : CfgIn w c) (h : chkB c = false) :
    Calls Try.prog 22 #[cfgV c] w fun e w' => e = .returned (.int .i64 0) ∧ Below w.heap.size w w' := by
  have := rAway_any c w hcf
  rwa [away_no h] at this
theorem Away_no (c : Cfg) (w : World) (hcf : CfgIn w c) (h : chkB c = false) :
    Calls Try.prog 21 #[cfgV c] w fun e w' => e = .returned (.int .i64 0) ∧ Below w.heap.size w w' := by
  have := Away_any c w hcf
  rwa [away_no h] at this
theorem rBase'_any (c : Cfg) (w : World) (hcf : CfgIn w c) :
    Calls Try.prog 20 #[cfgV c] w fun e w' => e = .returned (.int .i64 (baseS c)) ∧ Below w.heap.size w w' := by
  rw [← base_eq_any]; exact rBase_any c w hcf
theorem Rounds_ok (c : Cfg) (w : World) (hcf : CfgIn w c) (h : chkB c = true) :
    Calls Try.prog 15 #[cfgV c] w fun e w' => e = .returned (.int .i64 (c.patience + 3)) ∧ Below w.heap.size w w' := by
  have := Rounds_any c w hcf
  rwa [show roundsS c = c.patience + 3 by simp [roundsS, h]] at this
theorem Rounds_no (c : Cfg) (w : World) (hcf : CfgIn w c) (h : chkB c = false) :
    Calls Try.prog 15 #[cfgV c] w fun e w' => e = .returned (.int .i64 0) ∧ Below w.heap.size w w' := by
  have := Rounds_any c w hcf
  rwa [show roundsS c = 0 by simp [roundsS, h]] at this
theorem Enough_ok (c : Cfg) (w : World) (hcf : CfgIn w c) (h : chkB c = true) :
    Calls Try.prog 24 #[cfgV c] w fun e w' => e = .returned (.int .i64 (c.retire + c.threads + 1)) ∧ Below w.heap.size w w' := by
  have := Enough_any c w hcf
  rwa [show enoughS c = c.retire + c.threads + 1 by simp [enoughS, awayS, h]] at this
theorem Enough_no (c : Cfg) (w : World) (hcf : CfgIn w c) (h : chkB c = false) :
    Calls Try.prog 24 #[cfgV c] w fun e w' => e = .returned (.int .i64 0) ∧ Below w.heap.size w w' := by
  have := Enough_any c w hcf
  rwa [show enoughS c = 0 by simp [enoughS, h]] at this

set_option maxHeartbeats 4000000 in
set_option maxRecDepth 100000 in
theorem BoundTells_ok (c : Cfg) (w : World) (hcf : CfgIn w c) (hk : chkB c = true) :
    Calls Try.prog 4 #[cfgV c] w fun e w' => e = .returned (.bool true) ∧ Below w.heap.size w w' := by
  have HC := Lib.hid hcf
  have HK := Lib.hid hk
  obtain ⟨g1, g2, g3, g4, g5, g6, g7, g8, g9, g10, g11⟩ := chk_kind hk
  obtain ⟨r1, r2⟩ := away_b hk
  obtain ⟨p1, p2⟩ := prod_b (awayS c) c.threads 96 64 (by omega) (by omega) (by omega) (by omega)
  have HG := Lib.hid g11
  clear g11
  clear hcf hk
  unfold cfgV
  go_enter Try.func4, Try.ntmps4
  go_wp2_with (go_at_call 10; refine (rCheck_ok c _ (HC.out.alloc _) HK.out).mono ?_; rintro e w1 ⟨rfl, hb1⟩; obtain ⟨c0, c1, c2, c3, c4, c5, c6, c7, c8, c9, c10⟩ := ((BoxC.new w c).below hb1).all; have HB := Lib.hid (((Below.refl _ _).alloc (Nat.le_refl _) _).trans (hb1.mono (alloc_size _ _))); have HCW := Lib.hid (HC.out.below HB.out); clear hb1)
  go_quiet (fail)
  go_wp2
  replace HB := Lib.hid (Below.drewN' HB.out nq)
  replace HCW : Hid (CfgIn (w1.drewN nq) c) := HCW
  replace c0 : (w1.drewN nq).cell? ⟨w.heap.size, 0, none⟩ = _ := c0
  replace c1 : (w1.drewN nq).cell? ⟨w.heap.size, 1, none⟩ = _ := c1
  replace c2 : (w1.drewN nq).cell? ⟨w.heap.size, 2, none⟩ = _ := c2
  replace c3 : (w1.drewN nq).cell? ⟨w.heap.size, 3, none⟩ = _ := c3
  replace c4 : (w1.drewN nq).cell? ⟨w.heap.size, 4, none⟩ = _ := c4
  replace c5 : (w1.drewN nq).cell? ⟨w.heap.size, 5, none⟩ = _ := c5
  replace c6 : (w1.drewN nq).cell? ⟨w.heap.size, 6, none⟩ = _ := c6
  replace c7 : (w1.drewN nq).cell? ⟨w.heap.size, 7, none⟩ = _ := c7
  replace c8 : (w1.drewN nq).cell? ⟨w.heap.size, 8, none⟩ = _ := c8
  replace c9 : (w1.drewN nq).cell? ⟨w.heap.size, 9, none⟩ = _ := c9
  replace c10 : (w1.drewN nq).cell? ⟨w.heap.size, 10, none⟩ = _ := c10
  generalize w1.drewN nq = w1 at *
  have hmn : (if c.patience + 3 < 1 then c.patience + 3 else 1) = 1 := by rw [if_neg (by omega)]
  have hwr := IntWalk.i64_in (awayS c * c.threads) (by omega)
  have k0 := cell_regrown c0
  have k1 := cell_regrown c1
  have k2 := cell_regrown c2
  have k3 := cell_regrown c3
  have k4 := cell_regrown c4
  have k5 := cell_regrown c5
  have k6 := cell_regrown c6
  have k7 := cell_regrown c7
  have k8 := cell_regrown c8
  have k9 := cell_regrown c9
  have k10 := cell_regrown c10
  clear c0 c1 c2 c3 c4 c5 c6 c7 c8 c9 c10
  refine wp_region_quiet_below (by kernel_rfl) (by kernel_rfl) ?_
  repeat (quiet_step ((first
      | (go_at_call 15; exact Calls.regrown_of (Rounds_ok c _ (HCW.out.below (below_regrown _ _ _)) HK.out))
      | (go_at_call 16; exact Calls.regrown_of (Round_any c _ (HCW.out.below (below_regrown _ _ _))))
      | (go_at_call 17; exact Calls.regrown_of (rRound_any c _ (HCW.out.below (below_regrown _ _ _))))
      | (go_at_call 12; exact Calls.regrown_of (Call_any c _ (HCW.out.below (below_regrown _ _ _))))
      | (go_at_call 18; exact Calls.regrown_of (rCall_any c _ (HCW.out.below (below_regrown _ _ _))))
      | (go_at_call 13; exact Calls.regrown_of (Slope_any c _ (HCW.out.below (below_regrown _ _ _))))
      | (go_at_call 19; exact Calls.regrown_of (rSlope_any c _ (HCW.out.below (below_regrown _ _ _))))
      | (go_at_call 14; exact Calls.regrown_of (Base_any c _ (HCW.out.below (below_regrown _ _ _))))
      | (go_at_call 20; exact Calls.regrown_of (rBase'_any c _ (HCW.out.below (below_regrown _ _ _))))
      | (go_at_call 21; exact Calls.regrown_of (Away_any c _ (HCW.out.below (below_regrown _ _ _))))
      | (go_at_call 22; exact Calls.regrown_of (rAway_any c _ (HCW.out.below (below_regrown _ _ _))))
      | (go_at_call 23; exact Calls.regrown_of (All_any c _ (HCW.out.below (below_regrown _ _ _))))
      | (go_at_call 24; exact Calls.regrown_of (Enough_ok c _ (HCW.out.below (below_regrown _ _ _)) HK.out))
      | (go_at_call 11; exact Calls.regrown_of (awake21_any _)))))
  refine wpQuiet_nil ?_
  intro _ hw'
  obtain ⟨⟨dq, osq⟩, hw''⟩ := hw'
  subst hw''
  go_wp2
  go_ret
  exact ⟨rfl, HB.out.trans ((below_regrown w1 dq osq).mono HB.out.size)⟩

set_option maxHeartbeats 4000000 in
set_option maxRecDepth 100000 in
theorem BoundTells_no (c : Cfg) (w : World) (hcf : CfgIn w c) (hk : chkB c = false) :
    Calls Try.prog 4 #[cfgV c] w fun e w' => e = .returned (.bool true) ∧ Below w.heap.size w w' := by
  have HC := Lib.hid hcf
  have HK := Lib.hid hk
  clear hcf hk
  unfold cfgV
  go_enter Try.func4, Try.ntmps4
  go_wp2_with (go_at_call 10; refine (rCheck_no c _ (HC.out.alloc _) HK.out).mono ?_; rintro e w1 ⟨rfl, hb1⟩; obtain ⟨c0, c1, c2, c3, c4, c5, c6, c7, c8, c9, c10⟩ := ((BoxC.new w c).below hb1).all; have HB := Lib.hid (((Below.refl _ _).alloc (Nat.le_refl _) _).trans (hb1.mono (alloc_size _ _))); have HCW := Lib.hid (HC.out.below HB.out); clear hb1)
  have k0 := cell_regrown c0
  have k1 := cell_regrown c1
  have k2 := cell_regrown c2
  have k3 := cell_regrown c3
  have k4 := cell_regrown c4
  have k5 := cell_regrown c5
  have k6 := cell_regrown c6
  have k7 := cell_regrown c7
  have k8 := cell_regrown c8
  have k9 := cell_regrown c9
  have k10 := cell_regrown c10
  clear c0 c1 c2 c3 c4 c5 c6 c7 c8 c9 c10
  refine wp_region_quiet_below (by kernel_rfl) (by kernel_rfl) ?_
  repeat (quiet_step ((first
      | (go_at_call 15; exact Calls.regrown_of (Rounds_no c _ (HCW.out.below (below_regrown _ _ _)) HK.out))
      | (go_at_call 16; exact Calls.regrown_of (Round_any c _ (HCW.out.below (below_regrown _ _ _))))
      | (go_at_call 17; exact Calls.regrown_of (rRound_any c _ (HCW.out.below (below_regrown _ _ _))))
      | (go_at_call 12; exact Calls.regrown_of (Call_any c _ (HCW.out.below (below_regrown _ _ _))))
      | (go_at_call 18; exact Calls.regrown_of (rCall_any c _ (HCW.out.below (below_regrown _ _ _))))
      | (go_at_call 13; exact Calls.regrown_of (Slope_any c _ (HCW.out.below (below_regrown _ _ _))))
      | (go_at_call 19; exact Calls.regrown_of (rSlope_any c _ (HCW.out.below (below_regrown _ _ _))))
      | (go_at_call 14; exact Calls.regrown_of (Base_any c _ (HCW.out.below (below_regrown _ _ _))))
      | (go_at_call 20; exact Calls.regrown_of (rBase'_any c _ (HCW.out.below (below_regrown _ _ _))))
      | (go_at_call 21; exact Calls.regrown_of (Away_no c _ (HCW.out.below (below_regrown _ _ _)) HK.out))
      | (go_at_call 22; exact Calls.regrown_of (rAway_no c _ (HCW.out.below (below_regrown _ _ _)) HK.out))
      | (go_at_call 23; exact Calls.regrown_of (All_no c _ (HCW.out.below (below_regrown _ _ _)) HK.out))
      | (go_at_call 24; exact Calls.regrown_of (Enough_no c _ (HCW.out.below (below_regrown _ _ _)) HK.out))
      | (go_at_call 11; exact Calls.regrown_of (awake21_any _)))))
  refine wpQuiet_nil ?_
  intro _ hw'
  obtain ⟨⟨dq, osq⟩, hw''⟩ := hw'
  subst hw''
  go_wp2
  go_ret
  exact ⟨rfl, HB.out.trans ((below_regrown w1 dq osq).mono HB.out.size)⟩

end Go.Proofs.Ytmllbailfbjoeaa
