/- How many words a thing's state and a node take, of any shape: the program's functions and the document's, as plain numbers. -/
import Derived.Test.YtknlhkkpheahlaaDoorCfg
import Derived.IntWalk
namespace Go.Proofs.YtknlhkkpheahlaaDoor
open Go.RowKit Go.Sort

def cfgCells (c : Cfg) : List Value := [.int .i64 c.kind, .int .i64 c.threads, .int .i64 c.chans, .int .i64 c.cap, .int .i64 c.nodes, .int .i64 c.retire, .int .i64 c.patience, .int .i64 c.tags, .int .i64 c.seqs, .int .i64 c.gens, .slice c.sa c.start.length c.sc]

/-- Block b holds the shape c. -/
def BoxC (w : World) (b : Nat) (c : Cfg) : Prop := b < w.heap.size ∧ ∀ i v, (cfgCells c)[i]? = some v → w.cell? ⟨b, i, none⟩ = some v

theorem BoxC.below {w w' : World} {b : Nat} {c : Cfg} (h : BoxC w b c) (hb : Below w.heap.size w w') : BoxC w' b c :=
  ⟨Nat.lt_of_lt_of_le h.1 hb.size, fun i v hi => (hb.cell (p := ⟨b, i, none⟩) h.1).trans (h.2 i v hi)⟩

theorem BoxC.new (w : World) (c : Cfg) : BoxC (w.alloc (.cells #[.int .i64 c.kind, .int .i64 c.threads, .int .i64 c.chans, .int .i64 c.cap, .int .i64 c.nodes, .int .i64 c.retire, .int .i64 c.patience, .int .i64 c.tags, .int .i64 c.seqs, .int .i64 c.gens, .slice c.sa c.start.length c.sc] 45)) w.heap.size c := by
  refine ⟨by simp, fun i v hi => ?_⟩
  simp only [cfgCells] at hi
  rw [World.cell?_alloc_at (hn := rfl)]
  rw [← hi]
  simp

theorem BoxC.all {w : World} {b : Nat} {c : Cfg} (h : BoxC w b c) :
    (w.cell? ⟨b, 0, none⟩ = some (.int .i64 c.kind) ∧ w.cell? ⟨b, 1, none⟩ = some (.int .i64 c.threads) ∧ w.cell? ⟨b, 2, none⟩ = some (.int .i64 c.chans) ∧ w.cell? ⟨b, 3, none⟩ = some (.int .i64 c.cap) ∧
     w.cell? ⟨b, 4, none⟩ = some (.int .i64 c.nodes) ∧ w.cell? ⟨b, 5, none⟩ = some (.int .i64 c.retire) ∧ w.cell? ⟨b, 6, none⟩ = some (.int .i64 c.patience) ∧ w.cell? ⟨b, 7, none⟩ = some (.int .i64 c.tags) ∧
     w.cell? ⟨b, 8, none⟩ = some (.int .i64 c.seqs) ∧ w.cell? ⟨b, 9, none⟩ = some (.int .i64 c.gens) ∧ w.cell? ⟨b, 10, none⟩ = some (.slice c.sa c.start.length c.sc)) :=
  ⟨h.2 0 _ rfl, h.2 1 _ rfl, h.2 2 _ rfl, h.2 3 _ rfl, h.2 4 _ rfl, h.2 5 _ rfl, h.2 6 _ rfl, h.2 7 _ rfl, h.2 8 _ rfl, h.2 9 _ rfl, h.2 10 _ rfl⟩

theorem chk_kind {c : Cfg} (h : chkB c = true) : 1 ≤ c.threads ∧ c.threads ≤ 64 ∧ 1 ≤ c.retire ∧ c.retire ≤ 32 ∧ 0 ≤ c.patience ∧ c.patience ≤ 4 ∧ 0 ≤ c.cap ∧ c.cap ≤ 16 ∧ 0 ≤ c.chans ∧ c.chans ≤ 8 ∧ (c.kind = 3 ∨ (c.kind = 1 ∨ c.kind = 2) ∧ 1 ≤ c.cap) := by
  simp only [chkB, ownB, inB, Bool.and_eq_true, decide_eq_true_eq] at h
  grind

theorem chkE_ok {c : Cfg} (h : chkB c = true) : chkE c = 0 := by simp [chkE, h]
theorem chkE_no {c : Cfg} (h : chkB c = false) : chkE c = 1 := by simp [chkE, h]

theorem Check_ok (c : Cfg) (w : World) (hcf : CfgIn w c) (h : chkB c = true) :
    Calls Tryd.prog 62 #[cfgV c] w fun e w' => e = .returned (.int .i64 0) ∧ Below w.heap.size w w' := by
  rw [← chkE_ok h]; exact Check_any c w hcf
theorem Check_no (c : Cfg) (w : World) (hcf : CfgIn w c) (h : chkB c = false) :
    Calls Tryd.prog 62 #[cfgV c] w fun e w' => e = .returned (.int .i64 1) ∧ Below w.heap.size w w' := by
  rw [← chkE_no h]; exact Check_any c w hcf
theorem rCheck_ok (c : Cfg) (w : World) (hcf : CfgIn w c) (h : chkB c = true) :
    Calls Tryd.prog 23 #[cfgV c] w fun e w' => e = .returned (.int .i64 0) ∧ Below w.heap.size w w' := by
  rw [← chkE_ok h]; exact rCheck_any c w hcf
theorem rCheck_no (c : Cfg) (w : World) (hcf : CfgIn w c) (h : chkB c = false) :
    Calls Tryd.prog 23 #[cfgV c] w fun e w' => e = .returned (.int .i64 1) ∧ Below w.heap.size w w' := by
  rw [← chkE_no h]; exact rCheck_any c w hcf

theorem prod_b (a b m n : Int) (h1 : 0 ≤ a) (h2 : a ≤ m) (h3 : 0 ≤ b) (h4 : b ≤ n) : 0 ≤ a * b ∧ a * b ≤ m * n :=
  ⟨Int.mul_nonneg h1 h3, Int.mul_le_mul h2 h4 h3 (by omega)⟩

def stateS (c : Cfg) : Int := if chkB c = true then (if c.kind == 3 then 1 + c.chans * (1 + c.cap) + c.threads * 4 else 1 + c.cap) else 0
def sizeS (c : Cfg) : Int := if chkB c = true then stateS c + c.threads else 0

set_option maxHeartbeats 1000000 in
theorem State_any (c : Cfg) (w : World) (hcf : CfgIn w c) :
    Calls Tryd.prog 102 #[cfgV c] w fun e w' => e = .returned (.int .i64 (stateS c)) ∧ Below w.heap.size w w' := by
  have HC := Lib.hid hcf
  clear hcf
  unfold cfgV
  cases hk : chkB c
  · have HK := Lib.hid hk
    clear hk
    go_enter Tryd.func102, Tryd.ntmps102
    go_wp2_with (go_at_call 62; refine (Check_no c _ (HC.out.alloc _) HK.out).mono ?_; rintro e w1 ⟨rfl, hb1⟩)
    go_ret
    exact ⟨ret_int (by simp [stateS, HK.out]), ((Below.refl _ _).alloc (Nat.le_refl _) _).trans (hb1.mono (by simp))⟩
  · have HK := Lib.hid hk
    obtain ⟨g1, g2, g3, g4, g5, g6, g7, g8, g9, g10, g11⟩ := chk_kind hk
    clear hk
    have HG := Lib.hid g11
    clear g11
    have hp := prod_b c.chans (1 + c.cap) 8 17 (by omega) (by omega) (by omega) (by omega)
    obtain ⟨p1, p2⟩ := hp
    cases h3 : c.kind == 3
    all_goals
      go_enter Tryd.func102, Tryd.ntmps102
      go_wp2_with (go_at_call 62; refine (Check_ok c _ (HC.out.alloc _) HK.out).mono ?_; rintro e w1 ⟨rfl, hb1⟩; obtain ⟨c0, c1, c2, c3, c4, c5, c6, c7, c8, c9, c10⟩ := ((BoxC.new w c).below hb1).all)
      go_ret
      exact ⟨ret_int (by simp [stateS, HK.out, h3]), ((Below.refl _ _).alloc (Nat.le_refl _) _).trans (hb1.mono (by simp))⟩

theorem state_b {c : Cfg} (h : chkB c = true) : 0 ≤ stateS c ∧ stateS c ≤ 1000 := by
  obtain ⟨g1, g2, g3, g4, g5, g6, g7, g8, g9, g10, g11⟩ := chk_kind h
  have hp := prod_b c.chans (1 + c.cap) 8 17 (by omega) (by omega) (by omega) (by omega)
  simp only [stateS, h, if_true]
  split <;> omega

theorem alloc_size (w : World) (o : Obj) : w.heap.size ≤ (w.alloc o).heap.size := by simp


set_option maxHeartbeats 1000000 in
theorem Size_any (c : Cfg) (w : World) (hcf : CfgIn w c) :
    Calls Tryd.prog 79 #[cfgV c] w fun e w' => e = .returned (.int .i64 (sizeS c)) ∧ Below w.heap.size w w' := by
  have HC := Lib.hid hcf
  clear hcf
  unfold cfgV
  cases hk : chkB c
  · have HK := Lib.hid hk
    clear hk
    go_enter Tryd.func79, Tryd.ntmps79
    go_wp2_with (go_at_call 62; refine (Check_no c _ (HC.out.alloc _) HK.out).mono ?_; rintro e w1 ⟨rfl, hb1⟩)
    go_ret
    exact ⟨ret_int (by simp [sizeS, HK.out]), ((Below.refl _ _).alloc (Nat.le_refl _) _).trans (hb1.mono (by simp))⟩
  · have HK := Lib.hid hk
    obtain ⟨g1, g2, g3, g4, g5, g6, g7, g8, g9, g10, g11⟩ := chk_kind hk
    obtain ⟨s1, s2⟩ := state_b hk
    clear hk
    have HG := Lib.hid g11
    clear g11
    go_enter Tryd.func79, Tryd.ntmps79
    go_wp2_with (first
      | (go_at_call 62; refine (Check_ok c _ (HC.out.alloc _) HK.out).mono ?_; rintro e w1 ⟨rfl, hb1⟩; obtain ⟨c0, c1, c2, c3, c4, c5, c6, c7, c8, c9, c10⟩ := ((BoxC.new w c).below hb1).all; have HB := Lib.hid (((Below.refl _ _).alloc (Nat.le_refl _) _).trans (hb1.mono (alloc_size _ _))); have HCW := Lib.hid (HC.out.below HB.out); clear hb1))
    have k0 := cell_regrown c0
    have k1 := cell_regrown c1
    have k2 := cell_regrown c2
    have k3 := cell_regrown c3
    have k4 := cell_regrown c4
    have k5 := cell_regrown c5
    have k6 := cell_regrown c6
    have k7 := cell_regrown c7
    have k8 := cell_regrown c8
    have k9 := cell_regrown c9
    have k10 := cell_regrown c10
    clear c0 c1 c2 c3 c4 c5 c6 c7 c8 c9 c10
    refine wp_region_quiet_below (by kernel_rfl) (by kernel_rfl) ?_
    repeat (quiet_step ((first | (go_at_call 102; exact Calls.regrown_of (State_any c _ (HCW.out.below (below_regrown _ _ _)))))))
    refine wpQuiet_nil ?_
    intro _ hw'
    obtain ⟨⟨dq, osq⟩, hw''⟩ := hw'
    subst hw''
    go_wp2
    go_ret
    refine ⟨ret_int ?_, HB.out.trans ((below_regrown w1 dq osq).mono HB.out.size)⟩
    simp (disch := omega) only [IntWalk.i64_in]
    simp [sizeS, HK.out]


theorem state_eq (c : Cfg) : 1 + c.chans + c.chans * c.cap + 4 * c.threads = 1 + c.chans * (1 + c.cap) + c.threads * 4 := by
  rw [Int.mul_add, Int.mul_one]; omega

set_option maxHeartbeats 1000000 in
theorem rState_any (c : Cfg) (w : World) (hcf : CfgIn w c) :
    Calls Tryd.prog 109 #[cfgV c] w fun e w' => e = .returned (.int .i64 (stateS c)) ∧ Below w.heap.size w w' := by
  have HC := Lib.hid hcf
  clear hcf
  unfold cfgV
  cases hk : chkB c
  · have HK := Lib.hid hk
    clear hk
    go_enter Tryd.func109, Tryd.ntmps109
    go_wp2_with (go_at_call 23; refine (rCheck_no c _ (HC.out.alloc _) HK.out).mono ?_; rintro e w1 ⟨rfl, hb1⟩)
    go_ret
    exact ⟨ret_int (by simp [stateS, HK.out]), ((Below.refl _ _).alloc (Nat.le_refl _) _).trans (hb1.mono (by simp))⟩
  · have HK := Lib.hid hk
    obtain ⟨g1, g2, g3, g4, g5, g6, g7, g8, g9, g10, g11⟩ := chk_kind hk
    obtain ⟨p1, p2⟩ := prod_b c.chans c.cap 8 16 (by omega) (by omega) (by omega) (by omega)
    clear hk
    have HG := Lib.hid g11
    clear g11
    cases h3 : c.kind == 3
    all_goals
      go_enter Tryd.func109, Tryd.ntmps109
      go_wp2_with (first
        | (go_at_call 23; refine (rCheck_ok c _ (HC.out.alloc _) HK.out).mono ?_; rintro e w1 ⟨rfl, hb1⟩; obtain ⟨c0, c1, c2, c3, c4, c5, c6, c7, c8, c9, c10⟩ := ((BoxC.new w c).below hb1).all; have HB := Lib.hid (((Below.refl _ _).alloc (Nat.le_refl _) _).trans (hb1.mono (alloc_size _ _))); have HCW := Lib.hid (HC.out.below HB.out); clear hb1))
      go_ret
      refine ⟨ret_int ?_, HB.out⟩
      skip
      first | (simp [stateS, HK.out, h3]; done) | (simp [stateS, HK.out, h3]; rw [Int.mul_add, Int.mul_one]; omega) | (simp [stateS, HK.out, h3]; omega)

set_option maxHeartbeats 1000000 in
theorem rSize_any (c : Cfg) (w : World) (hcf : CfgIn w c) :
    Calls Tryd.prog 83 #[cfgV c] w fun e w' => e = .returned (.int .i64 (sizeS c)) ∧ Below w.heap.size w w' := by
  have HC := Lib.hid hcf
  clear hcf
  unfold cfgV
  cases hk : chkB c
  · have HK := Lib.hid hk
    clear hk
    go_enter Tryd.func83, Tryd.ntmps83
    go_wp2_with (go_at_call 23; refine (rCheck_no c _ (HC.out.alloc _) HK.out).mono ?_; rintro e w1 ⟨rfl, hb1⟩)
    go_ret
    exact ⟨ret_int (by simp [sizeS, HK.out]), ((Below.refl _ _).alloc (Nat.le_refl _) _).trans (hb1.mono (by simp))⟩
  · have HK := Lib.hid hk
    obtain ⟨g1, g2, g3, g4, g5, g6, g7, g8, g9, g10, g11⟩ := chk_kind hk
    obtain ⟨s1, s2⟩ := state_b hk
    clear hk
    have HG := Lib.hid g11
    clear g11
    go_enter Tryd.func83, Tryd.ntmps83
    go_wp2_with (first
      | (go_at_call 23; refine (rCheck_ok c _ (HC.out.alloc _) HK.out).mono ?_; rintro e w1 ⟨rfl, hb1⟩; obtain ⟨c0, c1, c2, c3, c4, c5, c6, c7, c8, c9, c10⟩ := ((BoxC.new w c).below hb1).all; have HB := Lib.hid (((Below.refl _ _).alloc (Nat.le_refl _) _).trans (hb1.mono (alloc_size _ _))); have HCW := Lib.hid (HC.out.below HB.out); clear hb1))
    have k0 := cell_regrown c0
    have k1 := cell_regrown c1
    have k2 := cell_regrown c2
    have k3 := cell_regrown c3
    have k4 := cell_regrown c4
    have k5 := cell_regrown c5
    have k6 := cell_regrown c6
    have k7 := cell_regrown c7
    have k8 := cell_regrown c8
    have k9 := cell_regrown c9
    have k10 := cell_regrown c10
    clear c0 c1 c2 c3 c4 c5 c6 c7 c8 c9 c10
    refine wp_region_quiet_below (by kernel_rfl) (by kernel_rfl) ?_
    repeat (quiet_step ((first | (go_at_call 109; exact Calls.regrown_of (rState_any c _ (HCW.out.below (below_regrown _ _ _)))))))
    refine wpQuiet_nil ?_
    intro _ hw'
    obtain ⟨⟨dq, osq⟩, hw''⟩ := hw'
    subst hw''
    go_wp2
    go_ret
    refine ⟨ret_int ?_, HB.out.trans ((below_regrown w1 dq osq).mono HB.out.size)⟩
    simp (disch := omega) only [IntWalk.i64_in]
    simp [sizeS, HK.out]


theorem size_b {c : Cfg} (h : chkB c = true) : 0 ≤ sizeS c ∧ sizeS c ≤ 1100 := by
  obtain ⟨g1, g2, _⟩ := chk_kind h
  have := state_b h
  simp only [sizeS, h, if_true]
  omega
theorem chk_nodes {c : Cfg} (h : chkB c = true) : 1 ≤ c.nodes ∧ c.nodes ≤ 64 := by
  simp only [chkB, inB, Bool.and_eq_true, decide_eq_true_eq] at h
  exact h.1.1.1.1.1.2

end Go.Proofs.YtknlhkkpheahlaaDoor
