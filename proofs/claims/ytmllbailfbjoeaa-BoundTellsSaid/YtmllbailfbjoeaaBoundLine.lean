/- The law of the line: the bound of a call over the number of threads. -/
import Derived.Test.YtmllbailfbjoeaaBoundLaw
namespace Go.Proofs.Ytmllbailfbjoeaa
open Go.RowKit Go.Sort

/-- The shape with another number of threads. -/
abbrev thr (c : Cfg) (t : Int) : Cfg := ⟨c.kind, t, c.chans, c.cap, c.nodes, c.retire, c.patience, c.tags, c.seqs, c.gens, c.start, c.sa, c.sc⟩

theorem thr_in {w : World} {c : Cfg} (h : CfgIn w c) (t : Int) : CfgIn w (thr c t) := h

theorem slope_thr {c : Cfg} {t : Int} (h : chkB c = true) (h' : chkB (thr c t) = true) : slopeS (thr c t) = slopeS c := by
  simp [slopeS, roundsS, h, h']

theorem base_thr {c : Cfg} {t : Int} (h : chkB c = true) (h' : chkB (thr c t) = true) : baseS (thr c t) = baseS c := by
  rw [← base_eq h, ← base_eq h']
  simp [rbaseS, h, h']

theorem Slope_thr (c : Cfg) (t : Int) (w : World) (hcf : CfgIn w c) (h : chkB c = true) (h' : chkB (thr c t) = true) :
    Calls Try.prog 13 #[cfgV (thr c t)] w fun e w' => e = .returned (.int .i64 (slopeS c)) ∧ Below w.heap.size w w' := by
  rw [← slope_thr h h']; exact Slope_any (thr c t) w (thr_in hcf t)
theorem Base_thr (c : Cfg) (t : Int) (w : World) (hcf : CfgIn w c) (h : chkB c = true) (h' : chkB (thr c t) = true) :
    Calls Try.prog 14 #[cfgV (thr c t)] w fun e w' => e = .returned (.int .i64 (baseS c)) ∧ Below w.heap.size w w' := by
  rw [← base_thr h h']; exact Base_any (thr c t) w (thr_in hcf t)
theorem Call_line (c : Cfg) (w : World) (hcf : CfgIn w c) (h : chkB c = true) :
    Calls Try.prog 12 #[cfgV c] w fun e w' => e = .returned (.int .i64 (slopeS c * c.threads + baseS c)) ∧ Below w.heap.size w w' := by
  rw [← call_line h]; exact Call_any c w hcf

def BoxD (w : World) (b : Nat) (c : Cfg) : Prop := BoxC w b c

set_option maxHeartbeats 4000000 in
set_option maxRecDepth 100000 in
theorem BoundLine_no (c : Cfg) (t : Int) (w : World) (hcf : CfgIn w c) (hk : chkB c = false) :
    Calls Try.prog 3 #[cfgV c, .int .i64 t] w fun e w' => e = .returned (.bool true) ∧ Below w.heap.size w w' := by
  have HC := Lib.hid hcf
  have HK := Lib.hid hk
  clear hk
  clear hcf
  unfold cfgV
  go_enter Try.func3, Try.ntmps3
  go_wp2_with fail
  refine (rCheck_no c _ ((HC.out.alloc _).alloc _) HK.out).mono ?_
  rintro e w1 ⟨rfl, hb1⟩
  go_wp2_with fail
  refine (awake21_any _).mono ?_
  rintro e w2 ⟨rfl, hb2⟩
  go_wp2
  go_ret
  have h1 := (((Below.refl _ w).alloc (Nat.le_refl _) _).alloc (alloc_size _ _) _).trans (hb1.mono (Nat.le_trans (alloc_size _ _) (alloc_size _ _)))
  exact ⟨rfl, h1.trans (hb2.mono h1.size)⟩

set_option maxHeartbeats 4000000 in
set_option maxRecDepth 100000 in
theorem BoundLine_half (c : Cfg) (t : Int) (w : World) (hcf : CfgIn w c) (hk : chkB c = true) (hd : chkB (thr c t) = false) :
    Calls Try.prog 3 #[cfgV c, .int .i64 t] w fun e w' => e = .returned (.bool true) ∧ Below w.heap.size w w' := by
  have HC := Lib.hid hcf
  have HK := Lib.hid hk
  have HD := Lib.hid hd
  clear hk hd
  clear hcf
  unfold cfgV
  go_enter Try.func3, Try.ntmps3
  go_wp2_with fail
  refine (rCheck_ok c _ ((HC.out.alloc _).alloc _) HK.out).mono ?_
  rintro e w1 ⟨rfl, hb1⟩
  have h1 := (((Below.refl _ w).alloc (Nat.le_refl _) _).alloc (alloc_size _ _) _).trans (hb1.mono (Nat.le_trans (alloc_size _ _) (alloc_size _ _)))
  have HB := Lib.hid h1
  have bx := ((BoxC.new w c).below ((Below.refl _ _).alloc (Nat.le_refl _) _)).below hb1
  have bd := (BoxC.new _ (thr c t)).below hb1
  rw [World.size_alloc] at bd
  have HBX := Lib.hid bx
  have HBD := Lib.hid bd
  obtain ⟨d0, d1, d2, d3, d4, d5, d6, d7, d8, d9, d10⟩ := bd.all
  clear h1 hb1 bx bd
  go_wp2_with fail
  refine (rCheck_no (thr c t) _ (HC.out.below HB.out) HD.out).mono ?_
  rintro e w2 ⟨rfl, hb2⟩
  go_wp2_with fail
  refine (awake21_any _).mono ?_
  rintro e w3 ⟨rfl, hb3⟩
  go_wp2
  go_ret
  have h2 := HB.out.trans (hb2.mono HB.out.size)
  exact ⟨rfl, h2.trans (hb3.mono h2.size)⟩

set_option maxHeartbeats 4000000 in
set_option maxRecDepth 100000 in
theorem BoundLine_ok (c : Cfg) (t : Int) (w : World) (hcf : CfgIn w c) (hk : chkB c = true) (hd : chkB (thr c t) = true) :
    Calls Try.prog 3 #[cfgV c, .int .i64 t] w fun e w' => e = .returned (.bool true) ∧ Below w.heap.size w w' := by
  have HC := Lib.hid hcf
  have HK := Lib.hid hk
  have HD := Lib.hid hd
  have hpos := base_pos hk
  obtain ⟨g1, g2, g3, g4, g5, g6, g7, g8, g9, g10, g11⟩ := chk_kind hk
  obtain ⟨r3, r4⟩ := slope_b hk
  obtain ⟨q1, q2⟩ := call_b hk
  rw [call_line hk] at q1 q2
  obtain ⟨p1, p2⟩ := prod_b (slopeS c) c.threads 200 64 (by omega) (by omega) (by omega) (by omega)
  have hw1 := IntWalk.i64_in (slopeS c * c.threads) (by omega)
  have hw2 := IntWalk.i64_in (slopeS c * c.threads + baseS c) (by omega)
  have HW1 := Lib.hid hw1
  have HW2 := Lib.hid hw2
  clear hk hd g11 hw1 hw2
  clear hcf
  unfold cfgV
  go_enter Try.func3, Try.ntmps3
  go_wp2_with fail
  refine (rCheck_ok c _ ((HC.out.alloc _).alloc _) HK.out).mono ?_
  rintro e w1 ⟨rfl, hb1⟩
  have h1 := (((Below.refl _ w).alloc (Nat.le_refl _) _).alloc (alloc_size _ _) _).trans (hb1.mono (Nat.le_trans (alloc_size _ _) (alloc_size _ _)))
  have HB := Lib.hid h1
  have bx := ((BoxC.new w c).below ((Below.refl _ _).alloc (Nat.le_refl _) _)).below hb1
  have bd := (BoxC.new _ (thr c t)).below hb1
  rw [World.size_alloc] at bd
  have HBX := Lib.hid bx
  have HBD := Lib.hid bd
  obtain ⟨d0, d1, d2, d3, d4, d5, d6, d7, d8, d9, d10⟩ := bd.all
  clear h1 hb1 bx bd
  go_wp2_with fail
  refine (rCheck_ok (thr c t) _ (HC.out.below HB.out) HD.out).mono ?_
  rintro e w2 ⟨rfl, hb2⟩
  replace HB := Lib.hid (HB.out.trans (hb2.mono HB.out.size))
  have HCW := Lib.hid (HC.out.below HB.out)
  obtain ⟨c0, c1, c2, c3, c4, c5, c6, c7, c8, c9, c10⟩ := (HBX.out.below hb2).all
  obtain ⟨e0, e1, e2, e3, e4, e5, e6, e7, e8, e9, e10⟩ := (HBD.out.below hb2).all
  clear hb2 d0 d1 d2 d3 d4 d5 d6 d7 d8 d9 d10
  go_wp2
  have k0 := cell_regrown (w := w2) c0
  have k1 := cell_regrown (w := w2) c1
  have k2 := cell_regrown (w := w2) c2
  have k3 := cell_regrown (w := w2) c3
  have k4 := cell_regrown (w := w2) c4
  have k5 := cell_regrown (w := w2) c5
  have k6 := cell_regrown (w := w2) c6
  have k7 := cell_regrown (w := w2) c7
  have k8 := cell_regrown (w := w2) c8
  have k9 := cell_regrown (w := w2) c9
  have k10 := cell_regrown (w := w2) c10
  have j0 := cell_regrown (w := w2) e0
  have j1 := cell_regrown (w := w2) e1
  have j2 := cell_regrown (w := w2) e2
  have j3 := cell_regrown (w := w2) e3
  have j4 := cell_regrown (w := w2) e4
  have j5 := cell_regrown (w := w2) e5
  have j6 := cell_regrown (w := w2) e6
  have j7 := cell_regrown (w := w2) e7
  have j8 := cell_regrown (w := w2) e8
  have j9 := cell_regrown (w := w2) e9
  have j10 := cell_regrown (w := w2) e10
  clear c0 c1 c2 c3 c4 c5 c6 c7 c8 c9 c10 e0 e1 e2 e3 e4 e5 e6 e7 e8 e9 e10
  have hw1 := HW1.out
  have hw2 := HW2.out
  refine wp_region_quiet_below (by kernel_rfl) (by kernel_rfl) ?_
  repeat (quiet_step ((first
      | (go_at_call 12; with_reducible exact Calls.regrown_of (Call_line c _ (HCW.out.below (below_regrown _ _ _)) HK.out))
      | (go_at_call 13; with_reducible exact Calls.regrown_of (Slope_any c _ (HCW.out.below (below_regrown _ _ _))))
      | (go_at_call 13; with_reducible exact Calls.regrown_of (Slope_thr c t _ (HCW.out.below (below_regrown _ _ _)) HK.out HD.out))
      | (go_at_call 14; with_reducible exact Calls.regrown_of (Base_any c _ (HCW.out.below (below_regrown _ _ _))))
      | (go_at_call 14; with_reducible exact Calls.regrown_of (Base_thr c t _ (HCW.out.below (below_regrown _ _ _)) HK.out HD.out))
      | (go_at_call 11; with_reducible exact Calls.regrown_of (awake21_any _)))))
  refine wpQuiet_nil ?_
  intro _ hw'
  obtain ⟨⟨dq, osq⟩, hw''⟩ := hw'
  subst hw''
  go_wp2
  go_ret
  exact ⟨rfl, HB.out.trans ((below_regrown w2 dq osq).mono HB.out.size)⟩

theorem BoundLine_any (c : Cfg) (t : Int) (w : World) (hcf : CfgIn w c) :
    Calls Try.prog 3 #[cfgV c, .int .i64 t] w fun e w' => e = .returned (.bool true) ∧ Below w.heap.size w w' := by
  cases hk : chkB c
  · exact BoundLine_no c t w hcf hk
  · cases hd : chkB (thr c t)
    · exact BoundLine_half c t w hcf hk hd
    · exact BoundLine_ok c t w hcf hk hd

theorem BoundTells_any (c : Cfg) (w : World) (hcf : CfgIn w c) :
    Calls Try.prog 4 #[cfgV c] w fun e w' => e = .returned (.bool true) ∧ Below w.heap.size w w' := by
  cases hk : chkB c
  · exact BoundTells_no c w hcf hk
  · exact BoundTells_ok c w hcf hk

end Go.Proofs.Ytmllbailfbjoeaa
