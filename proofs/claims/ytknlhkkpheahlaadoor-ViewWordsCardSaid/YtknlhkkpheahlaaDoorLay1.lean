/- How the words of a thing lie: first, Nodes, Node, Total, the program's and the document's, as plain numbers. -/
import Derived.Test.YtknlhkkpheahlaaDoorSize
namespace Go.Proofs.YtknlhkkpheahlaaDoor
open Go.RowKit Go.Sort

def firstS (t s : Int) : Int := if s = 4 then 3 else if s = 5 then 3 + t else if s = 6 then 3 + t * 6 else if s = 7 then 3 + t * 7 else if s = 8 then 3 + t * 8 else 3 + t * 9
def nodesS (c : Cfg) : Int := if chkB c = true then 1 + c.threads * c.nodes else 0
def totalS (c : Cfg) : Int := if chkB c = true then 3 + c.threads * 9 + nodesS c * (1 + sizeS c) else 0

theorem nodes_b {c : Cfg} (h : chkB c = true) : 1 ≤ nodesS c ∧ nodesS c ≤ 4097 := by
  obtain ⟨g1, g2, _⟩ := chk_kind h
  obtain ⟨n1, n2⟩ := chk_nodes h
  have hp := prod_b c.threads c.nodes 64 64 (by omega) (by omega) (by omega) (by omega)
  simp only [nodesS, h, if_true]
  omega

set_option maxHeartbeats 1000000 in
theorem first_any (c : Cfg) (s : Int) (w : World) (h1 : 1 ≤ c.threads) (h2 : c.threads ≤ 64) (hs : 4 ≤ s ∧ s ≤ 9) :
    Calls Tryd.prog 78 #[cfgV c, .int .i64 s] w fun e w' => e = .returned (.int .i64 (firstS c.threads s)) ∧ Below w.heap.size w w' := by
  unfold cfgV
  rcases (show s = 4 ∨ s = 5 ∨ s = 6 ∨ s = 7 ∨ s = 8 ∨ s = 9 by omega) with rfl | rfl | rfl | rfl | rfl | rfl
  all_goals
    clear hs
    go_enter Tryd.func78, Tryd.ntmps78
    go_wp2
    go_ret
    exact ⟨ret_int (by simp [firstS]), (Below.refl _ _).alloc (Nat.le_refl _) _⟩
set_option maxHeartbeats 1000000 in
theorem Nodes_any (c : Cfg) (w : World) (hcf : CfgIn w c) :
    Calls Tryd.prog 101 #[cfgV c] w fun e w' => e = .returned (.int .i64 (nodesS c)) ∧ Below w.heap.size w w' := by
  have HC := Lib.hid hcf
  clear hcf
  unfold cfgV
  cases hk : chkB c
  · have HK := Lib.hid hk
    clear hk
    go_enter Tryd.func101, Tryd.ntmps101
    go_wp2_with (go_at_call 62; refine (Check_no c _ (HC.out.alloc _) HK.out).mono ?_; rintro e w1 ⟨rfl, hb1⟩)
    go_ret
    exact ⟨ret_int (by simp [nodesS, HK.out]), ((Below.refl _ _).alloc (Nat.le_refl _) _).trans (hb1.mono (by simp))⟩
  · have HK := Lib.hid hk
    obtain ⟨g1, g2, g3, g4, g5, g6, g7, g8, g9, g10, g11⟩ := chk_kind hk
    obtain ⟨n1, n2⟩ := chk_nodes hk
    obtain ⟨p1, p2⟩ := prod_b c.threads c.nodes 64 64 (by omega) (by omega) (by omega) (by omega)
    clear hk
    have HG := Lib.hid g11
    clear g11
    go_enter Tryd.func101, Tryd.ntmps101
    go_wp2_with (first
      | (go_at_call 62; refine (Check_ok c _ (HC.out.alloc _) HK.out).mono ?_; rintro e w1 ⟨rfl, hb1⟩; obtain ⟨c0, c1, c2, c3, c4, c5, c6, c7, c8, c9, c10⟩ := ((BoxC.new w c).below hb1).all; have HB := Lib.hid (((Below.refl _ _).alloc (Nat.le_refl _) _).trans (hb1.mono (alloc_size _ _))); have HCW := Lib.hid (HC.out.below HB.out); clear hb1))
    go_ret
    refine ⟨ret_int ?_, HB.out⟩
    skip
    simp [nodesS, HK.out]
set_option maxHeartbeats 1000000 in
theorem rNodes_any (c : Cfg) (w : World) (hcf : CfgIn w c) :
    Calls Tryd.prog 108 #[cfgV c] w fun e w' => e = .returned (.int .i64 (nodesS c)) ∧ Below w.heap.size w w' := by
  have HC := Lib.hid hcf
  clear hcf
  unfold cfgV
  cases hk : chkB c
  · have HK := Lib.hid hk
    clear hk
    go_enter Tryd.func108, Tryd.ntmps108
    go_wp2_with (go_at_call 23; refine (rCheck_no c _ (HC.out.alloc _) HK.out).mono ?_; rintro e w1 ⟨rfl, hb1⟩)
    go_ret
    exact ⟨ret_int (by simp [nodesS, HK.out]), ((Below.refl _ _).alloc (Nat.le_refl _) _).trans (hb1.mono (by simp))⟩
  · have HK := Lib.hid hk
    obtain ⟨g1, g2, g3, g4, g5, g6, g7, g8, g9, g10, g11⟩ := chk_kind hk
    obtain ⟨n1, n2⟩ := chk_nodes hk
    obtain ⟨p1, p2⟩ := prod_b c.threads c.nodes 64 64 (by omega) (by omega) (by omega) (by omega)
    clear hk
    have HG := Lib.hid g11
    clear g11
    go_enter Tryd.func108, Tryd.ntmps108
    go_wp2_with (first
      | (go_at_call 23; refine (rCheck_ok c _ (HC.out.alloc _) HK.out).mono ?_; rintro e w1 ⟨rfl, hb1⟩; obtain ⟨c0, c1, c2, c3, c4, c5, c6, c7, c8, c9, c10⟩ := ((BoxC.new w c).below hb1).all; have HB := Lib.hid (((Below.refl _ _).alloc (Nat.le_refl _) _).trans (hb1.mono (alloc_size _ _))); have HCW := Lib.hid (HC.out.below HB.out); clear hb1))
    go_ret
    refine ⟨ret_int ?_, HB.out⟩
    skip
    (simp only [nodesS, HK.out, if_true]; omega)

set_option maxHeartbeats 2000000 in
theorem Node_any (c : Cfg) (i : Int) (w : World) (hcf : CfgIn w c) (hk : chkB c = true) (h1 : 0 ≤ i) (h2 : i ≤ 4097) :
    Calls Tryd.prog 100 #[cfgV c, .int .i64 i] w fun e w' => e = .returned (.int .i64 (3 + c.threads * 9 + i * (1 + sizeS c))) ∧ Below w.heap.size w w' := by
  have HC := Lib.hid hcf
  obtain ⟨g1, g2, g3, g4, g5, g6, g7, g8, g9, g10, g11⟩ := chk_kind hk
  obtain ⟨s1, s2⟩ := size_b hk
  obtain ⟨p1, p2⟩ := prod_b i (1 + sizeS c) 4097 1101 (by omega) (by omega) (by omega) (by omega)
  have HG := Lib.hid g11
  clear hcf g11 hk
  have hfs : firstS c.threads 9 = 3 + c.threads * 9 := by simp [firstS]
  have HFS := Lib.hid hfs
  clear hfs
  unfold cfgV
  have HB := Lib.hid ((Below.refl w.heap.size w).alloc (Nat.le_refl _) (.cells #[.int .i64 c.kind, .int .i64 c.threads, .int .i64 c.chans, .int .i64 c.cap, .int .i64 c.nodes, .int .i64 c.retire, .int .i64 c.patience, .int .i64 c.tags, .int .i64 c.seqs, .int .i64 c.gens, .slice c.sa c.start.length c.sc] 45))
  have HCW := Lib.hid (HC.out.below HB.out)
  have HX := Lib.hid (BoxC.new w c)
  go_enter Tryd.func100, Tryd.ntmps100
  go_wp2_with fail
  generalize (w.alloc (.cells #[.int .i64 c.kind, .int .i64 c.threads, .int .i64 c.chans, .int .i64 c.cap, .int .i64 c.nodes, .int .i64 c.retire, .int .i64 c.patience, .int .i64 c.tags, .int .i64 c.seqs, .int .i64 c.gens, .slice c.sa c.start.length c.sc] 45)) = w1 at *
  obtain ⟨c0, c1, c2, c3, c4, c5, c6, c7, c8, c9, c10⟩ := HX.out.all
  have k0 := cell_regrown c0
  have k1 := cell_regrown c1
  have k2 := cell_regrown c2
  have k3 := cell_regrown c3
  have k4 := cell_regrown c4
  have k5 := cell_regrown c5
  have k6 := cell_regrown c6
  have k7 := cell_regrown c7
  have k8 := cell_regrown c8
  have k9 := cell_regrown c9
  have k10 := cell_regrown c10
  clear c0 c1 c2 c3 c4 c5 c6 c7 c8 c9 c10
  refine wp_region_quiet_below (by kernel_rfl) (by kernel_rfl) ?_
  repeat (quiet_step ((first | (go_at_call 78; exact Calls.regrown_of (first_any c 9 _ g1 g2 ⟨by decide, by decide⟩)) | (go_at_call 79; exact Calls.regrown_of (Size_any c _ (HCW.out.below (below_regrown _ _ _)))))))
  refine wpQuiet_nil ?_
  intro _ hw'
  obtain ⟨⟨dq, osq⟩, hw''⟩ := hw'
  subst hw''
  go_wp2
  go_ret
  refine ⟨ret_int ?_, HB.out.trans ((below_regrown w1 dq osq).mono HB.out.size)⟩
  rw [HFS.out]
  simp (disch := omega) only [IntWalk.i64_in]

set_option maxHeartbeats 1000000 in
theorem Total_any (c : Cfg) (w : World) (hcf : CfgIn w c) :
    Calls Tryd.prog 77 #[cfgV c] w fun e w' => e = .returned (.int .i64 (totalS c)) ∧ Below w.heap.size w w' := by
  have HC := Lib.hid hcf
  clear hcf
  unfold cfgV
  cases hk : chkB c
  · have HK := Lib.hid hk
    clear hk
    go_enter Tryd.func77, Tryd.ntmps77
    go_wp2_with (go_at_call 62; refine (Check_no c _ (HC.out.alloc _) HK.out).mono ?_; rintro e w1 ⟨rfl, hb1⟩)
    go_ret
    exact ⟨ret_int (by simp [totalS, HK.out]), ((Below.refl _ _).alloc (Nat.le_refl _) _).trans (hb1.mono (by simp))⟩
  · have HK := Lib.hid hk
    obtain ⟨g1, g2, g3, g4, g5, g6, g7, g8, g9, g10, g11⟩ := chk_kind hk
    obtain ⟨s1, s2⟩ := size_b hk
    obtain ⟨m1, m2⟩ := nodes_b hk
    obtain ⟨p1, p2⟩ := prod_b (nodesS c) (1 + sizeS c) 4097 1101 (by omega) (by omega) (by omega) (by omega)
    clear hk
    have HG := Lib.hid g11
    clear g11
    go_enter Tryd.func77, Tryd.ntmps77
    go_wp2_with (first
      | (go_at_call 62; refine (Check_ok c _ (HC.out.alloc _) HK.out).mono ?_; rintro e w1 ⟨rfl, hb1⟩; obtain ⟨c0, c1, c2, c3, c4, c5, c6, c7, c8, c9, c10⟩ := ((BoxC.new w c).below hb1).all; have HB := Lib.hid (((Below.refl _ _).alloc (Nat.le_refl _) _).trans (hb1.mono (alloc_size _ _))); have HCW := Lib.hid (HC.out.below HB.out); clear hb1))
    have k0 := cell_regrown c0
    have k1 := cell_regrown c1
    have k2 := cell_regrown c2
    have k3 := cell_regrown c3
    have k4 := cell_regrown c4
    have k5 := cell_regrown c5
    have k6 := cell_regrown c6
    have k7 := cell_regrown c7
    have k8 := cell_regrown c8
    have k9 := cell_regrown c9
    have k10 := cell_regrown c10
    clear c0 c1 c2 c3 c4 c5 c6 c7 c8 c9 c10
    refine wp_region_quiet_below (by kernel_rfl) (by kernel_rfl) ?_
    repeat (quiet_step ((first | (go_at_call 101; exact Calls.regrown_of (Nodes_any c _ (HCW.out.below (below_regrown _ _ _)))) | (go_at_call 100; exact Calls.regrown_of (Node_any c _ _ (HCW.out.below (below_regrown _ _ _)) HK.out (Int.le_of_lt m1) m2)))))
    refine wpQuiet_nil ?_
    intro _ hw'
    obtain ⟨⟨dq, osq⟩, hw''⟩ := hw'
    subst hw''
    go_wp2
    go_ret
    refine ⟨ret_int ?_, HB.out.trans ((below_regrown w1 dq osq).mono HB.out.size)⟩
    (try simp (disch := omega) only [IntWalk.i64_in])
    simp [totalS, HK.out]

set_option maxHeartbeats 1000000 in
theorem rTotal_any (c : Cfg) (w : World) (hcf : CfgIn w c) :
    Calls Tryd.prog 82 #[cfgV c] w fun e w' => e = .returned (.int .i64 (totalS c)) ∧ Below w.heap.size w w' := by
  have HC := Lib.hid hcf
  clear hcf
  unfold cfgV
  cases hk : chkB c
  · have HK := Lib.hid hk
    clear hk
    go_enter Tryd.func82, Tryd.ntmps82
    go_wp2_with (go_at_call 23; refine (rCheck_no c _ (HC.out.alloc _) HK.out).mono ?_; rintro e w1 ⟨rfl, hb1⟩)
    go_ret
    exact ⟨ret_int (by simp [totalS, HK.out]), ((Below.refl _ _).alloc (Nat.le_refl _) _).trans (hb1.mono (by simp))⟩
  · have HK := Lib.hid hk
    obtain ⟨g1, g2, g3, g4, g5, g6, g7, g8, g9, g10, g11⟩ := chk_kind hk
    obtain ⟨s1, s2⟩ := size_b hk
    obtain ⟨m1, m2⟩ := nodes_b hk
    obtain ⟨p1, p2⟩ := prod_b (nodesS c) (1 + sizeS c) 4097 1101 (by omega) (by omega) (by omega) (by omega)
    clear hk
    have HG := Lib.hid g11
    clear g11
    go_enter Tryd.func82, Tryd.ntmps82
    go_wp2_with (first
      | (go_at_call 23; refine (rCheck_ok c _ (HC.out.alloc _) HK.out).mono ?_; rintro e w1 ⟨rfl, hb1⟩; obtain ⟨c0, c1, c2, c3, c4, c5, c6, c7, c8, c9, c10⟩ := ((BoxC.new w c).below hb1).all; have HB := Lib.hid (((Below.refl _ _).alloc (Nat.le_refl _) _).trans (hb1.mono (alloc_size _ _))); have HCW := Lib.hid (HC.out.below HB.out); clear hb1))
    have k0 := cell_regrown c0
    have k1 := cell_regrown c1
    have k2 := cell_regrown c2
    have k3 := cell_regrown c3
    have k4 := cell_regrown c4
    have k5 := cell_regrown c5
    have k6 := cell_regrown c6
    have k7 := cell_regrown c7
    have k8 := cell_regrown c8
    have k9 := cell_regrown c9
    have k10 := cell_regrown c10
    clear c0 c1 c2 c3 c4 c5 c6 c7 c8 c9 c10
    refine wp_region_quiet_below (by kernel_rfl) (by kernel_rfl) ?_
    repeat (quiet_step ((first | (go_at_call 108; exact Calls.regrown_of (rNodes_any c _ (HCW.out.below (below_regrown _ _ _)))) | (go_at_call 83; exact Calls.regrown_of (rSize_any c _ (HCW.out.below (below_regrown _ _ _)))))))
    refine wpQuiet_nil ?_
    intro _ hw'
    obtain ⟨⟨dq, osq⟩, hw''⟩ := hw'
    subst hw''
    go_wp2
    go_ret
    refine ⟨ret_int ?_, HB.out.trans ((below_regrown w1 dq osq).mono HB.out.size)⟩
    (try simp (disch := omega) only [IntWalk.i64_in])
    (simp only [totalS, HK.out, if_true]; omega)

theorem total_b {c : Cfg} (h : chkB c = true) : totalS c ≤ 4600000 := by
  obtain ⟨g1, g2, _⟩ := chk_kind h
  obtain ⟨s1, s2⟩ := size_b h
  obtain ⟨m1, m2⟩ := nodes_b h
  obtain ⟨p1, p2⟩ := prod_b (nodesS c) (1 + sizeS c) 4097 1101 (by omega) (by omega) (by omega) (by omega)
  simp only [totalS, h, if_true]
  omega

end Go.Proofs.YtknlhkkpheahlaaDoor
