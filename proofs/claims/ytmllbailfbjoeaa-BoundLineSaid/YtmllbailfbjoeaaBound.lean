/- The bounds of a shape: the program's functions and the document's, as plain numbers. -/
import Derived.Test.YtmllbailfbjoeaaCfg
import Derived.IntWalk
namespace Go.Proofs.Ytmllbailfbjoeaa
open Go.RowKit Go.Sort

def cfgCells (c : Cfg) : List Value := [.int .i64 c.kind, .int .i64 c.threads, .int .i64 c.chans, .int .i64 c.cap, .int .i64 c.nodes, .int .i64 c.retire, .int .i64 c.patience, .int .i64 c.tags, .int .i64 c.seqs, .int .i64 c.gens, .slice c.sa c.start.length c.sc]

/-- Block b holds the shape c. -/
def BoxC (w : World) (b : Nat) (c : Cfg) : Prop := b < w.heap.size ∧ ∀ i v, (cfgCells c)[i]? = some v → w.cell? ⟨b, i, none⟩ = some v

theorem BoxC.below {w w' : World} {b : Nat} {c : Cfg} (h : BoxC w b c) (hb : Below w.heap.size w w') : BoxC w' b c :=
  ⟨Nat.lt_of_lt_of_le h.1 hb.size, fun i v hi => (hb.cell (p := ⟨b, i, none⟩) h.1).trans (h.2 i v hi)⟩

theorem BoxC.new (w : World) (c : Cfg) : BoxC (w.alloc (.cells #[.int .i64 c.kind, .int .i64 c.threads, .int .i64 c.chans, .int .i64 c.cap, .int .i64 c.nodes, .int .i64 c.retire, .int .i64 c.patience, .int .i64 c.tags, .int .i64 c.seqs, .int .i64 c.gens, .slice c.sa c.start.length c.sc] 24)) w.heap.size c := by
  refine ⟨by simp, fun i v hi => ?_⟩
  simp only [cfgCells] at hi
  rw [World.cell?_alloc_at (hn := rfl)]
  rw [← hi]
  simp

theorem BoxC.all {w : World} {b : Nat} {c : Cfg} (h : BoxC w b c) :
    (w.cell? ⟨b, 0, none⟩ = some (.int .i64 c.kind) ∧ w.cell? ⟨b, 1, none⟩ = some (.int .i64 c.threads) ∧ w.cell? ⟨b, 2, none⟩ = some (.int .i64 c.chans) ∧ w.cell? ⟨b, 3, none⟩ = some (.int .i64 c.cap) ∧
     w.cell? ⟨b, 4, none⟩ = some (.int .i64 c.nodes) ∧ w.cell? ⟨b, 5, none⟩ = some (.int .i64 c.retire) ∧ w.cell? ⟨b, 6, none⟩ = some (.int .i64 c.patience) ∧ w.cell? ⟨b, 7, none⟩ = some (.int .i64 c.tags) ∧
     w.cell? ⟨b, 8, none⟩ = some (.int .i64 c.seqs) ∧ w.cell? ⟨b, 9, none⟩ = some (.int .i64 c.gens) ∧ w.cell? ⟨b, 10, none⟩ = some (.slice c.sa c.start.length c.sc)) :=
  ⟨h.2 0 _ rfl, h.2 1 _ rfl, h.2 2 _ rfl, h.2 3 _ rfl, h.2 4 _ rfl, h.2 5 _ rfl, h.2 6 _ rfl, h.2 7 _ rfl, h.2 8 _ rfl, h.2 9 _ rfl, h.2 10 _ rfl⟩

theorem chk_kind {c : Cfg} (h : chkB c = true) : 1 ≤ c.threads ∧ c.threads ≤ 64 ∧ 1 ≤ c.retire ∧ c.retire ≤ 32 ∧ 0 ≤ c.patience ∧ c.patience ≤ 4 ∧ 0 ≤ c.cap ∧ c.cap ≤ 16 ∧ 0 ≤ c.chans ∧ c.chans ≤ 8 ∧ (c.kind = 3 ∨ (c.kind = 1 ∨ c.kind = 2) ∧ 1 ≤ c.cap) := by
  simp only [chkB, ownB, inB, Bool.and_eq_true, decide_eq_true_eq] at h
  grind

theorem chkE_ok {c : Cfg} (h : chkB c = true) : chkE c = 0 := by simp [chkE, h]
theorem chkE_no {c : Cfg} (h : chkB c = false) : chkE c = 1 := by simp [chkE, h]

theorem Check_ok (c : Cfg) (w : World) (hcf : CfgIn w c) (h : chkB c = true) :
    Calls Try.prog 65 #[cfgV c] w fun e w' => e = .returned (.int .i64 0) ∧ Below w.heap.size w w' := by
  rw [← chkE_ok h]; exact Check_any c w hcf
theorem Check_no (c : Cfg) (w : World) (hcf : CfgIn w c) (h : chkB c = false) :
    Calls Try.prog 65 #[cfgV c] w fun e w' => e = .returned (.int .i64 1) ∧ Below w.heap.size w w' := by
  rw [← chkE_no h]; exact Check_any c w hcf
theorem rCheck_ok (c : Cfg) (w : World) (hcf : CfgIn w c) (h : chkB c = true) :
    Calls Try.prog 10 #[cfgV c] w fun e w' => e = .returned (.int .i64 0) ∧ Below w.heap.size w w' := by
  rw [← chkE_ok h]; exact rCheck_any c w hcf
theorem rCheck_no (c : Cfg) (w : World) (hcf : CfgIn w c) (h : chkB c = false) :
    Calls Try.prog 10 #[cfgV c] w fun e w' => e = .returned (.int .i64 1) ∧ Below w.heap.size w w' := by
  rw [← chkE_no h]; exact rCheck_any c w hcf

theorem prod_b (a b m n : Int) (h1 : 0 ≤ a) (h2 : a ≤ m) (h3 : 0 ≤ b) (h4 : b ≤ n) : 0 ≤ a * b ∧ a * b ≤ m * n :=
  ⟨Int.mul_nonneg h1 h3, Int.mul_le_mul h2 h4 h3 (by omega)⟩

def stateS (c : Cfg) : Int := if chkB c = true then (if c.kind == 3 then 1 + c.chans * (1 + c.cap) + c.threads * 4 else 1 + c.cap) else 0
def sizeS (c : Cfg) : Int := if chkB c = true then stateS c + c.threads else 0

set_option maxHeartbeats 1000000 in
theorem State_any (c : Cfg) (w : World) (hcf : CfgIn w c) :
    Calls Try.prog 104 #[cfgV c] w fun e w' => e = .returned (.int .i64 (stateS c)) ∧ Below w.heap.size w w' := by
  have HC := Lib.hid hcf
  clear hcf
  unfold cfgV
  cases hk : chkB c
  · have HK := Lib.hid hk
    clear hk
    go_enter Try.func104, Try.ntmps104
    go_wp2_with (go_at_call 65; refine (Check_no c _ (HC.out.alloc _) HK.out).mono ?_; rintro e w1 ⟨rfl, hb1⟩)
    go_ret
    exact ⟨ret_int (by simp [stateS, HK.out]), ((Below.refl _ _).alloc (Nat.le_refl _) _).trans (hb1.mono (by simp))⟩
  · have HK := Lib.hid hk
    obtain ⟨g1, g2, g3, g4, g5, g6, g7, g8, g9, g10, g11⟩ := chk_kind hk
    clear hk
    have HG := Lib.hid g11
    clear g11
    have hp := prod_b c.chans (1 + c.cap) 8 17 (by omega) (by omega) (by omega) (by omega)
    obtain ⟨p1, p2⟩ := hp
    cases h3 : c.kind == 3
    all_goals
      go_enter Try.func104, Try.ntmps104
      go_wp2_with (go_at_call 65; refine (Check_ok c _ (HC.out.alloc _) HK.out).mono ?_; rintro e w1 ⟨rfl, hb1⟩; obtain ⟨c0, c1, c2, c3, c4, c5, c6, c7, c8, c9, c10⟩ := ((BoxC.new w c).below hb1).all)
      go_ret
      exact ⟨ret_int (by simp [stateS, HK.out, h3]), ((Below.refl _ _).alloc (Nat.le_refl _) _).trans (hb1.mono (by simp))⟩

theorem state_b {c : Cfg} (h : chkB c = true) : 0 ≤ stateS c ∧ stateS c ≤ 1000 := by
  obtain ⟨g1, g2, g3, g4, g5, g6, g7, g8, g9, g10, g11⟩ := chk_kind h
  have hp := prod_b c.chans (1 + c.cap) 8 17 (by omega) (by omega) (by omega) (by omega)
  simp only [stateS, h, if_true]
  split <;> omega

theorem alloc_size (w : World) (o : Obj) : w.heap.size ≤ (w.alloc o).heap.size := by simp


set_option maxHeartbeats 1000000 in
theorem Size_any (c : Cfg) (w : World) (hcf : CfgIn w c) :
    Calls Try.prog 66 #[cfgV c] w fun e w' => e = .returned (.int .i64 (sizeS c)) ∧ Below w.heap.size w w' := by
  have HC := Lib.hid hcf
  clear hcf
  unfold cfgV
  cases hk : chkB c
  · have HK := Lib.hid hk
    clear hk
    go_enter Try.func66, Try.ntmps66
    go_wp2_with (go_at_call 65; refine (Check_no c _ (HC.out.alloc _) HK.out).mono ?_; rintro e w1 ⟨rfl, hb1⟩)
    go_ret
    exact ⟨ret_int (by simp [sizeS, HK.out]), ((Below.refl _ _).alloc (Nat.le_refl _) _).trans (hb1.mono (by simp))⟩
  · have HK := Lib.hid hk
    obtain ⟨g1, g2, g3, g4, g5, g6, g7, g8, g9, g10, g11⟩ := chk_kind hk
    obtain ⟨s1, s2⟩ := state_b hk
    clear hk
    have HG := Lib.hid g11
    clear g11
    go_enter Try.func66, Try.ntmps66
    go_wp2_with (first
      | (go_at_call 65; refine (Check_ok c _ (HC.out.alloc _) HK.out).mono ?_; rintro e w1 ⟨rfl, hb1⟩; obtain ⟨c0, c1, c2, c3, c4, c5, c6, c7, c8, c9, c10⟩ := ((BoxC.new w c).below hb1).all; have HB := Lib.hid (((Below.refl _ _).alloc (Nat.le_refl _) _).trans (hb1.mono (alloc_size _ _))); have HCW := Lib.hid (HC.out.below HB.out); clear hb1))
    have k0 := cell_regrown c0
    have k1 := cell_regrown c1
    have k2 := cell_regrown c2
    have k3 := cell_regrown c3
    have k4 := cell_regrown c4
    have k5 := cell_regrown c5
    have k6 := cell_regrown c6
    have k7 := cell_regrown c7
    have k8 := cell_regrown c8
    have k9 := cell_regrown c9
    have k10 := cell_regrown c10
    clear c0 c1 c2 c3 c4 c5 c6 c7 c8 c9 c10
    refine wp_region_quiet_below (by kernel_rfl) (by kernel_rfl) ?_
    repeat (quiet_step ((first | (go_at_call 104; exact Calls.regrown_of (State_any c _ (HCW.out.below (below_regrown _ _ _)))))))
    refine wpQuiet_nil ?_
    intro _ hw'
    obtain ⟨⟨dq, osq⟩, hw''⟩ := hw'
    subst hw''
    go_wp2
    go_ret
    refine ⟨ret_int ?_, HB.out.trans ((below_regrown w1 dq osq).mono HB.out.size)⟩
    simp (disch := omega) only [IntWalk.i64_in]
    simp [sizeS, HK.out]


theorem state_eq (c : Cfg) : 1 + c.chans + c.chans * c.cap + 4 * c.threads = 1 + c.chans * (1 + c.cap) + c.threads * 4 := by
  rw [Int.mul_add, Int.mul_one]; omega

set_option maxHeartbeats 1000000 in
theorem rState_any (c : Cfg) (w : World) (hcf : CfgIn w c) :
    Calls Try.prog 105 #[cfgV c] w fun e w' => e = .returned (.int .i64 (stateS c)) ∧ Below w.heap.size w w' := by
  have HC := Lib.hid hcf
  clear hcf
  unfold cfgV
  cases hk : chkB c
  · have HK := Lib.hid hk
    clear hk
    go_enter Try.func105, Try.ntmps105
    go_wp2_with (go_at_call 10; refine (rCheck_no c _ (HC.out.alloc _) HK.out).mono ?_; rintro e w1 ⟨rfl, hb1⟩)
    go_ret
    exact ⟨ret_int (by simp [stateS, HK.out]), ((Below.refl _ _).alloc (Nat.le_refl _) _).trans (hb1.mono (by simp))⟩
  · have HK := Lib.hid hk
    obtain ⟨g1, g2, g3, g4, g5, g6, g7, g8, g9, g10, g11⟩ := chk_kind hk
    obtain ⟨p1, p2⟩ := prod_b c.chans c.cap 8 16 (by omega) (by omega) (by omega) (by omega)
    clear hk
    have HG := Lib.hid g11
    clear g11
    cases h3 : c.kind == 3
    all_goals
      go_enter Try.func105, Try.ntmps105
      go_wp2_with (first
        | (go_at_call 10; refine (rCheck_ok c _ (HC.out.alloc _) HK.out).mono ?_; rintro e w1 ⟨rfl, hb1⟩; obtain ⟨c0, c1, c2, c3, c4, c5, c6, c7, c8, c9, c10⟩ := ((BoxC.new w c).below hb1).all; have HB := Lib.hid (((Below.refl _ _).alloc (Nat.le_refl _) _).trans (hb1.mono (alloc_size _ _))); have HCW := Lib.hid (HC.out.below HB.out); clear hb1))
      go_ret
      refine ⟨ret_int ?_, HB.out⟩
      skip
      first | (simp [stateS, HK.out, h3]; done) | (simp [stateS, HK.out, h3]; rw [Int.mul_add, Int.mul_one]; omega) | (simp [stateS, HK.out, h3]; omega)

set_option maxHeartbeats 1000000 in
theorem rSize_any (c : Cfg) (w : World) (hcf : CfgIn w c) :
    Calls Try.prog 67 #[cfgV c] w fun e w' => e = .returned (.int .i64 (sizeS c)) ∧ Below w.heap.size w w' := by
  have HC := Lib.hid hcf
  clear hcf
  unfold cfgV
  cases hk : chkB c
  · have HK := Lib.hid hk
    clear hk
    go_enter Try.func67, Try.ntmps67
    go_wp2_with (go_at_call 10; refine (rCheck_no c _ (HC.out.alloc _) HK.out).mono ?_; rintro e w1 ⟨rfl, hb1⟩)
    go_ret
    exact ⟨ret_int (by simp [sizeS, HK.out]), ((Below.refl _ _).alloc (Nat.le_refl _) _).trans (hb1.mono (by simp))⟩
  · have HK := Lib.hid hk
    obtain ⟨g1, g2, g3, g4, g5, g6, g7, g8, g9, g10, g11⟩ := chk_kind hk
    obtain ⟨s1, s2⟩ := state_b hk
    clear hk
    have HG := Lib.hid g11
    clear g11
    go_enter Try.func67, Try.ntmps67
    go_wp2_with (first
      | (go_at_call 10; refine (rCheck_ok c _ (HC.out.alloc _) HK.out).mono ?_; rintro e w1 ⟨rfl, hb1⟩; obtain ⟨c0, c1, c2, c3, c4, c5, c6, c7, c8, c9, c10⟩ := ((BoxC.new w c).below hb1).all; have HB := Lib.hid (((Below.refl _ _).alloc (Nat.le_refl _) _).trans (hb1.mono (alloc_size _ _))); have HCW := Lib.hid (HC.out.below HB.out); clear hb1))
    have k0 := cell_regrown c0
    have k1 := cell_regrown c1
    have k2 := cell_regrown c2
    have k3 := cell_regrown c3
    have k4 := cell_regrown c4
    have k5 := cell_regrown c5
    have k6 := cell_regrown c6
    have k7 := cell_regrown c7
    have k8 := cell_regrown c8
    have k9 := cell_regrown c9
    have k10 := cell_regrown c10
    clear c0 c1 c2 c3 c4 c5 c6 c7 c8 c9 c10
    refine wp_region_quiet_below (by kernel_rfl) (by kernel_rfl) ?_
    repeat (quiet_step ((first | (go_at_call 105; exact Calls.regrown_of (rState_any c _ (HCW.out.below (below_regrown _ _ _)))))))
    refine wpQuiet_nil ?_
    intro _ hw'
    obtain ⟨⟨dq, osq⟩, hw''⟩ := hw'
    subst hw''
    go_wp2
    go_ret
    refine ⟨ret_int ?_, HB.out.trans ((below_regrown w1 dq osq).mono HB.out.size)⟩
    simp (disch := omega) only [IntWalk.i64_in]
    simp [sizeS, HK.out]


theorem size_b {c : Cfg} (h : chkB c = true) : 0 ≤ sizeS c ∧ sizeS c ≤ 1100 := by
  obtain ⟨g1, g2, _⟩ := chk_kind h
  have := state_b h
  simp only [sizeS, h, if_true]
  omega

def roundsS (c : Cfg) : Int := if chkB c = true then c.patience + 3 else 0
def roundS (c : Cfg) : Int := if chkB c = true then 6 + 2 * sizeS c + 11 * c.threads else 0
def callS (c : Cfg) : Int := if chkB c = true then roundsS c * roundS c + 4 * c.threads + 21 else 0
def slopeS (c : Cfg) : Int := if chkB c = true then (if c.kind == 3 then roundsS c * 21 + 4 else roundsS c * 13 + 4) else 0
def baseS (c : Cfg) : Int := if chkB c = true then callS c - slopeS c * c.threads else 0
def awayS (c : Cfg) : Int := if chkB c = true then c.retire + c.threads else 0
def enoughS (c : Cfg) : Int := if chkB c = true then awayS c + 1 else 0
def rbaseS (c : Cfg) : Int := if chkB c = true then (if c.kind == 3 then (c.patience + 3) * (6 + 2 * (1 + c.chans * (1 + c.cap))) + 21 else (c.patience + 3) * (6 + 2 * (1 + c.cap)) + 21) else 0

theorem rounds_b {c : Cfg} (h : chkB c = true) : 3 ≤ roundsS c ∧ roundsS c ≤ 7 := by
  obtain ⟨g1, g2, g3, g4, g5, g6, _⟩ := chk_kind h
  simp only [roundsS, h, if_true]; omega
theorem round_b {c : Cfg} (h : chkB c = true) : 0 ≤ roundS c ∧ roundS c ≤ 3000 := by
  obtain ⟨g1, g2, g3, g4, g5, g6, _⟩ := chk_kind h
  have := size_b h
  simp only [roundS, h, if_true]; omega
theorem call_b {c : Cfg} (h : chkB c = true) : 0 ≤ callS c ∧ callS c ≤ 30000 := by
  obtain ⟨g1, g2, g3, g4, g5, g6, _⟩ := chk_kind h
  obtain ⟨r1, r2⟩ := rounds_b h
  obtain ⟨r3, r4⟩ := round_b h
  obtain ⟨p1, p2⟩ := prod_b (roundsS c) (roundS c) 7 3000 (by omega) (by omega) (by omega) (by omega)
  simp only [callS, h, if_true]; omega
theorem slope_b {c : Cfg} (h : chkB c = true) : 0 ≤ slopeS c ∧ slopeS c ≤ 200 := by
  obtain ⟨r1, r2⟩ := rounds_b h
  simp only [slopeS, h, if_true]
  split <;> omega
theorem away_b {c : Cfg} (h : chkB c = true) : 0 ≤ awayS c ∧ awayS c ≤ 96 := by
  obtain ⟨g1, g2, g3, g4, g5, g6, _⟩ := chk_kind h
  simp only [awayS, h, if_true]; omega

set_option maxHeartbeats 1000000 in
theorem Rounds_any (c : Cfg) (w : World) (hcf : CfgIn w c) :
    Calls Try.prog 15 #[cfgV c] w fun e w' => e = .returned (.int .i64 (roundsS c)) ∧ Below w.heap.size w w' := by
  have HC := Lib.hid hcf
  clear hcf
  unfold cfgV
  cases hk : chkB c
  · have HK := Lib.hid hk
    clear hk
    go_enter Try.func15, Try.ntmps15
    go_wp2_with (go_at_call 65; refine (Check_no c _ (HC.out.alloc _) HK.out).mono ?_; rintro e w1 ⟨rfl, hb1⟩)
    go_ret
    exact ⟨ret_int (by simp [roundsS, HK.out]), ((Below.refl _ _).alloc (Nat.le_refl _) _).trans (hb1.mono (by simp))⟩
  · have HK := Lib.hid hk
    obtain ⟨g1, g2, g3, g4, g5, g6, g7, g8, g9, g10, g11⟩ := chk_kind hk
    clear hk
    have HG := Lib.hid g11
    clear g11
    go_enter Try.func15, Try.ntmps15
    go_wp2_with (first
      | (go_at_call 65; refine (Check_ok c _ (HC.out.alloc _) HK.out).mono ?_; rintro e w1 ⟨rfl, hb1⟩; obtain ⟨c0, c1, c2, c3, c4, c5, c6, c7, c8, c9, c10⟩ := ((BoxC.new w c).below hb1).all; have HB := Lib.hid (((Below.refl _ _).alloc (Nat.le_refl _) _).trans (hb1.mono (alloc_size _ _))); have HCW := Lib.hid (HC.out.below HB.out); clear hb1))
    go_ret
    refine ⟨ret_int ?_, HB.out⟩
    skip
    simp [roundsS, HK.out]

set_option maxHeartbeats 1000000 in
theorem Round_any (c : Cfg) (w : World) (hcf : CfgIn w c) :
    Calls Try.prog 16 #[cfgV c] w fun e w' => e = .returned (.int .i64 (roundS c)) ∧ Below w.heap.size w w' := by
  have HC := Lib.hid hcf
  clear hcf
  unfold cfgV
  cases hk : chkB c
  · have HK := Lib.hid hk
    clear hk
    go_enter Try.func16, Try.ntmps16
    go_wp2_with (go_at_call 65; refine (Check_no c _ (HC.out.alloc _) HK.out).mono ?_; rintro e w1 ⟨rfl, hb1⟩)
    go_ret
    exact ⟨ret_int (by simp [roundS, HK.out]), ((Below.refl _ _).alloc (Nat.le_refl _) _).trans (hb1.mono (by simp))⟩
  · have HK := Lib.hid hk
    obtain ⟨g1, g2, g3, g4, g5, g6, g7, g8, g9, g10, g11⟩ := chk_kind hk
    obtain ⟨s1, s2⟩ := size_b hk
    clear hk
    have HG := Lib.hid g11
    clear g11
    go_enter Try.func16, Try.ntmps16
    go_wp2_with (first
      | (go_at_call 65; refine (Check_ok c _ (HC.out.alloc _) HK.out).mono ?_; rintro e w1 ⟨rfl, hb1⟩; obtain ⟨c0, c1, c2, c3, c4, c5, c6, c7, c8, c9, c10⟩ := ((BoxC.new w c).below hb1).all; have HB := Lib.hid (((Below.refl _ _).alloc (Nat.le_refl _) _).trans (hb1.mono (alloc_size _ _))); have HCW := Lib.hid (HC.out.below HB.out); clear hb1))
    have k0 := cell_regrown c0
    have k1 := cell_regrown c1
    have k2 := cell_regrown c2
    have k3 := cell_regrown c3
    have k4 := cell_regrown c4
    have k5 := cell_regrown c5
    have k6 := cell_regrown c6
    have k7 := cell_regrown c7
    have k8 := cell_regrown c8
    have k9 := cell_regrown c9
    have k10 := cell_regrown c10
    clear c0 c1 c2 c3 c4 c5 c6 c7 c8 c9 c10
    refine wp_region_quiet_below (by kernel_rfl) (by kernel_rfl) ?_
    repeat (quiet_step ((first | (go_at_call 66; exact Calls.regrown_of (Size_any c _ (HCW.out.below (below_regrown _ _ _)))))))
    refine wpQuiet_nil ?_
    intro _ hw'
    obtain ⟨⟨dq, osq⟩, hw''⟩ := hw'
    subst hw''
    go_wp2
    go_ret
    refine ⟨ret_int ?_, HB.out.trans ((below_regrown w1 dq osq).mono HB.out.size)⟩
    simp (disch := omega) only [IntWalk.i64_in]
    simp [roundS, HK.out]

set_option maxHeartbeats 1000000 in
theorem rRound_any (c : Cfg) (w : World) (hcf : CfgIn w c) :
    Calls Try.prog 17 #[cfgV c] w fun e w' => e = .returned (.int .i64 (roundS c)) ∧ Below w.heap.size w w' := by
  have HC := Lib.hid hcf
  clear hcf
  unfold cfgV
  cases hk : chkB c
  · have HK := Lib.hid hk
    clear hk
    go_enter Try.func17, Try.ntmps17
    go_wp2_with (go_at_call 10; refine (rCheck_no c _ (HC.out.alloc _) HK.out).mono ?_; rintro e w1 ⟨rfl, hb1⟩)
    go_ret
    exact ⟨ret_int (by simp [roundS, HK.out]), ((Below.refl _ _).alloc (Nat.le_refl _) _).trans (hb1.mono (by simp))⟩
  · have HK := Lib.hid hk
    obtain ⟨g1, g2, g3, g4, g5, g6, g7, g8, g9, g10, g11⟩ := chk_kind hk
    obtain ⟨s1, s2⟩ := size_b hk
    clear hk
    have HG := Lib.hid g11
    clear g11
    go_enter Try.func17, Try.ntmps17
    go_wp2_with (first
      | (go_at_call 10; refine (rCheck_ok c _ (HC.out.alloc _) HK.out).mono ?_; rintro e w1 ⟨rfl, hb1⟩; obtain ⟨c0, c1, c2, c3, c4, c5, c6, c7, c8, c9, c10⟩ := ((BoxC.new w c).below hb1).all; have HB := Lib.hid (((Below.refl _ _).alloc (Nat.le_refl _) _).trans (hb1.mono (alloc_size _ _))); have HCW := Lib.hid (HC.out.below HB.out); clear hb1))
    have k0 := cell_regrown c0
    have k1 := cell_regrown c1
    have k2 := cell_regrown c2
    have k3 := cell_regrown c3
    have k4 := cell_regrown c4
    have k5 := cell_regrown c5
    have k6 := cell_regrown c6
    have k7 := cell_regrown c7
    have k8 := cell_regrown c8
    have k9 := cell_regrown c9
    have k10 := cell_regrown c10
    clear c0 c1 c2 c3 c4 c5 c6 c7 c8 c9 c10
    refine wp_region_quiet_below (by kernel_rfl) (by kernel_rfl) ?_
    repeat (quiet_step ((first | (go_at_call 67; exact Calls.regrown_of (rSize_any c _ (HCW.out.below (below_regrown _ _ _)))))))
    refine wpQuiet_nil ?_
    intro _ hw'
    obtain ⟨⟨dq, osq⟩, hw''⟩ := hw'
    subst hw''
    go_wp2
    go_ret
    refine ⟨ret_int ?_, HB.out.trans ((below_regrown w1 dq osq).mono HB.out.size)⟩
    simp (disch := omega) only [IntWalk.i64_in]
    simp [roundS, HK.out]

set_option maxHeartbeats 1000000 in
theorem Call_any (c : Cfg) (w : World) (hcf : CfgIn w c) :
    Calls Try.prog 12 #[cfgV c] w fun e w' => e = .returned (.int .i64 (callS c)) ∧ Below w.heap.size w w' := by
  have HC := Lib.hid hcf
  clear hcf
  unfold cfgV
  cases hk : chkB c
  · have HK := Lib.hid hk
    clear hk
    go_enter Try.func12, Try.ntmps12
    go_wp2_with (go_at_call 65; refine (Check_no c _ (HC.out.alloc _) HK.out).mono ?_; rintro e w1 ⟨rfl, hb1⟩)
    go_ret
    exact ⟨ret_int (by simp [callS, HK.out]), ((Below.refl _ _).alloc (Nat.le_refl _) _).trans (hb1.mono (by simp))⟩
  · have HK := Lib.hid hk
    obtain ⟨g1, g2, g3, g4, g5, g6, g7, g8, g9, g10, g11⟩ := chk_kind hk
    obtain ⟨r1, r2⟩ := rounds_b hk
    obtain ⟨r3, r4⟩ := round_b hk
    obtain ⟨p1, p2⟩ := prod_b (roundsS c) (roundS c) 7 3000 (by omega) (by omega) (by omega) (by omega)
    clear hk
    have HG := Lib.hid g11
    clear g11
    go_enter Try.func12, Try.ntmps12
    go_wp2_with (first
      | (go_at_call 65; refine (Check_ok c _ (HC.out.alloc _) HK.out).mono ?_; rintro e w1 ⟨rfl, hb1⟩; obtain ⟨c0, c1, c2, c3, c4, c5, c6, c7, c8, c9, c10⟩ := ((BoxC.new w c).below hb1).all; have HB := Lib.hid (((Below.refl _ _).alloc (Nat.le_refl _) _).trans (hb1.mono (alloc_size _ _))); have HCW := Lib.hid (HC.out.below HB.out); clear hb1))
    have k0 := cell_regrown c0
    have k1 := cell_regrown c1
    have k2 := cell_regrown c2
    have k3 := cell_regrown c3
    have k4 := cell_regrown c4
    have k5 := cell_regrown c5
    have k6 := cell_regrown c6
    have k7 := cell_regrown c7
    have k8 := cell_regrown c8
    have k9 := cell_regrown c9
    have k10 := cell_regrown c10
    clear c0 c1 c2 c3 c4 c5 c6 c7 c8 c9 c10
    refine wp_region_quiet_below (by kernel_rfl) (by kernel_rfl) ?_
    repeat (quiet_step ((first | (go_at_call 15; exact Calls.regrown_of (Rounds_any c _ (HCW.out.below (below_regrown _ _ _)))) | (go_at_call 16; exact Calls.regrown_of (Round_any c _ (HCW.out.below (below_regrown _ _ _)))))))
    refine wpQuiet_nil ?_
    intro _ hw'
    obtain ⟨⟨dq, osq⟩, hw''⟩ := hw'
    subst hw''
    go_wp2
    go_ret
    refine ⟨ret_int ?_, HB.out.trans ((below_regrown w1 dq osq).mono HB.out.size)⟩
    simp (disch := omega) only [IntWalk.i64_in]
    simp [callS, HK.out]

set_option maxHeartbeats 1000000 in
theorem rCall_any (c : Cfg) (w : World) (hcf : CfgIn w c) :
    Calls Try.prog 18 #[cfgV c] w fun e w' => e = .returned (.int .i64 (callS c)) ∧ Below w.heap.size w w' := by
  have HC := Lib.hid hcf
  clear hcf
  unfold cfgV
  cases hk : chkB c
  · have HK := Lib.hid hk
    clear hk
    go_enter Try.func18, Try.ntmps18
    go_wp2_with (go_at_call 10; refine (rCheck_no c _ (HC.out.alloc _) HK.out).mono ?_; rintro e w1 ⟨rfl, hb1⟩)
    go_ret
    exact ⟨ret_int (by simp [callS, HK.out]), ((Below.refl _ _).alloc (Nat.le_refl _) _).trans (hb1.mono (by simp))⟩
  · have HK := Lib.hid hk
    obtain ⟨g1, g2, g3, g4, g5, g6, g7, g8, g9, g10, g11⟩ := chk_kind hk
    obtain ⟨r3, r4⟩ := round_b hk
    obtain ⟨p1, p2⟩ := prod_b (c.patience + 3) (roundS c) 7 3000 (by omega) (by omega) (by omega) (by omega)
    clear hk
    have HG := Lib.hid g11
    clear g11
    go_enter Try.func18, Try.ntmps18
    go_wp2_with (first
      | (go_at_call 10; refine (rCheck_ok c _ (HC.out.alloc _) HK.out).mono ?_; rintro e w1 ⟨rfl, hb1⟩; obtain ⟨c0, c1, c2, c3, c4, c5, c6, c7, c8, c9, c10⟩ := ((BoxC.new w c).below hb1).all; have HB := Lib.hid (((Below.refl _ _).alloc (Nat.le_refl _) _).trans (hb1.mono (alloc_size _ _))); have HCW := Lib.hid (HC.out.below HB.out); clear hb1))
    have k0 := cell_regrown c0
    have k1 := cell_regrown c1
    have k2 := cell_regrown c2
    have k3 := cell_regrown c3
    have k4 := cell_regrown c4
    have k5 := cell_regrown c5
    have k6 := cell_regrown c6
    have k7 := cell_regrown c7
    have k8 := cell_regrown c8
    have k9 := cell_regrown c9
    have k10 := cell_regrown c10
    clear c0 c1 c2 c3 c4 c5 c6 c7 c8 c9 c10
    refine wp_region_quiet_below (by kernel_rfl) (by kernel_rfl) ?_
    repeat (quiet_step ((first | (go_at_call 17; exact Calls.regrown_of (rRound_any c _ (HCW.out.below (below_regrown _ _ _)))))))
    refine wpQuiet_nil ?_
    intro _ hw'
    obtain ⟨⟨dq, osq⟩, hw''⟩ := hw'
    subst hw''
    go_wp2
    go_ret
    refine ⟨ret_int ?_, HB.out.trans ((below_regrown w1 dq osq).mono HB.out.size)⟩
    simp (disch := omega) only [IntWalk.i64_in]
    simp [callS, roundsS, HK.out]

set_option maxHeartbeats 1000000 in
theorem Slope_any (c : Cfg) (w : World) (hcf : CfgIn w c) :
    Calls Try.prog 13 #[cfgV c] w fun e w' => e = .returned (.int .i64 (slopeS c)) ∧ Below w.heap.size w w' := by
  have HC := Lib.hid hcf
  clear hcf
  unfold cfgV
  cases hk : chkB c
  · have HK := Lib.hid hk
    clear hk
    go_enter Try.func13, Try.ntmps13
    go_wp2_with (go_at_call 65; refine (Check_no c _ (HC.out.alloc _) HK.out).mono ?_; rintro e w1 ⟨rfl, hb1⟩)
    go_ret
    exact ⟨ret_int (by simp [slopeS, HK.out]), ((Below.refl _ _).alloc (Nat.le_refl _) _).trans (hb1.mono (by simp))⟩
  · have HK := Lib.hid hk
    obtain ⟨g1, g2, g3, g4, g5, g6, g7, g8, g9, g10, g11⟩ := chk_kind hk
    obtain ⟨r1, r2⟩ := rounds_b hk
    clear hk
    have HG := Lib.hid g11
    clear g11
    cases h3 : c.kind == 3
    all_goals
      go_enter Try.func13, Try.ntmps13
      go_wp2_with (first
        | (go_at_call 65; refine (Check_ok c _ (HC.out.alloc _) HK.out).mono ?_; rintro e w1 ⟨rfl, hb1⟩; obtain ⟨c0, c1, c2, c3, c4, c5, c6, c7, c8, c9, c10⟩ := ((BoxC.new w c).below hb1).all; have HB := Lib.hid (((Below.refl _ _).alloc (Nat.le_refl _) _).trans (hb1.mono (alloc_size _ _))); have HCW := Lib.hid (HC.out.below HB.out); clear hb1)
        | (go_at_call 15; refine (Rounds_any c _ HCW.out).mono ?_; rintro e w2 ⟨rfl, hb2⟩))
      go_ret
      refine ⟨ret_int ?_, HB.out.trans (hb2.mono HB.out.size)⟩
      skip
      simp [slopeS, HK.out, h3]

set_option maxHeartbeats 1000000 in
theorem rSlope_any (c : Cfg) (w : World) (hcf : CfgIn w c) :
    Calls Try.prog 19 #[cfgV c] w fun e w' => e = .returned (.int .i64 (slopeS c)) ∧ Below w.heap.size w w' := by
  have HC := Lib.hid hcf
  clear hcf
  unfold cfgV
  cases hk : chkB c
  · have HK := Lib.hid hk
    clear hk
    go_enter Try.func19, Try.ntmps19
    go_wp2_with (go_at_call 10; refine (rCheck_no c _ (HC.out.alloc _) HK.out).mono ?_; rintro e w1 ⟨rfl, hb1⟩)
    go_ret
    exact ⟨ret_int (by simp [slopeS, HK.out]), ((Below.refl _ _).alloc (Nat.le_refl _) _).trans (hb1.mono (by simp))⟩
  · have HK := Lib.hid hk
    obtain ⟨g1, g2, g3, g4, g5, g6, g7, g8, g9, g10, g11⟩ := chk_kind hk
    clear hk
    have HG := Lib.hid g11
    clear g11
    cases h3 : c.kind == 3
    all_goals
      go_enter Try.func19, Try.ntmps19
      go_wp2_with (first
        | (go_at_call 10; refine (rCheck_ok c _ (HC.out.alloc _) HK.out).mono ?_; rintro e w1 ⟨rfl, hb1⟩; obtain ⟨c0, c1, c2, c3, c4, c5, c6, c7, c8, c9, c10⟩ := ((BoxC.new w c).below hb1).all; have HB := Lib.hid (((Below.refl _ _).alloc (Nat.le_refl _) _).trans (hb1.mono (alloc_size _ _))); have HCW := Lib.hid (HC.out.below HB.out); clear hb1))
      go_ret
      refine ⟨ret_int ?_, HB.out⟩
      skip
      simp [slopeS, roundsS, HK.out, h3]

set_option maxHeartbeats 1000000 in
theorem Base_any (c : Cfg) (w : World) (hcf : CfgIn w c) :
    Calls Try.prog 14 #[cfgV c] w fun e w' => e = .returned (.int .i64 (baseS c)) ∧ Below w.heap.size w w' := by
  have HC := Lib.hid hcf
  clear hcf
  unfold cfgV
  cases hk : chkB c
  · have HK := Lib.hid hk
    clear hk
    go_enter Try.func14, Try.ntmps14
    go_wp2_with (go_at_call 65; refine (Check_no c _ (HC.out.alloc _) HK.out).mono ?_; rintro e w1 ⟨rfl, hb1⟩)
    go_ret
    exact ⟨ret_int (by simp [baseS, HK.out]), ((Below.refl _ _).alloc (Nat.le_refl _) _).trans (hb1.mono (by simp))⟩
  · have HK := Lib.hid hk
    obtain ⟨g1, g2, g3, g4, g5, g6, g7, g8, g9, g10, g11⟩ := chk_kind hk
    obtain ⟨r1, r2⟩ := call_b hk
    obtain ⟨r3, r4⟩ := slope_b hk
    obtain ⟨p1, p2⟩ := prod_b (slopeS c) c.threads 200 64 (by omega) (by omega) (by omega) (by omega)
    clear hk
    have HG := Lib.hid g11
    clear g11
    go_enter Try.func14, Try.ntmps14
    go_wp2_with (first
      | (go_at_call 65; refine (Check_ok c _ (HC.out.alloc _) HK.out).mono ?_; rintro e w1 ⟨rfl, hb1⟩; obtain ⟨c0, c1, c2, c3, c4, c5, c6, c7, c8, c9, c10⟩ := ((BoxC.new w c).below hb1).all; have HB := Lib.hid (((Below.refl _ _).alloc (Nat.le_refl _) _).trans (hb1.mono (alloc_size _ _))); have HCW := Lib.hid (HC.out.below HB.out); clear hb1))
    have k0 := cell_regrown c0
    have k1 := cell_regrown c1
    have k2 := cell_regrown c2
    have k3 := cell_regrown c3
    have k4 := cell_regrown c4
    have k5 := cell_regrown c5
    have k6 := cell_regrown c6
    have k7 := cell_regrown c7
    have k8 := cell_regrown c8
    have k9 := cell_regrown c9
    have k10 := cell_regrown c10
    clear c0 c1 c2 c3 c4 c5 c6 c7 c8 c9 c10
    refine wp_region_quiet_below (by kernel_rfl) (by kernel_rfl) ?_
    repeat (quiet_step ((first | (go_at_call 12; exact Calls.regrown_of (Call_any c _ (HCW.out.below (below_regrown _ _ _)))) | (go_at_call 13; exact Calls.regrown_of (Slope_any c _ (HCW.out.below (below_regrown _ _ _)))))))
    refine wpQuiet_nil ?_
    intro _ hw'
    obtain ⟨⟨dq, osq⟩, hw''⟩ := hw'
    subst hw''
    go_wp2
    go_ret
    refine ⟨ret_int ?_, HB.out.trans ((below_regrown w1 dq osq).mono HB.out.size)⟩
    simp (disch := omega) only [IntWalk.i64_in]
    simp [baseS, HK.out]

set_option maxHeartbeats 1000000 in
theorem rBase_any (c : Cfg) (w : World) (hcf : CfgIn w c) :
    Calls Try.prog 20 #[cfgV c] w fun e w' => e = .returned (.int .i64 (rbaseS c)) ∧ Below w.heap.size w w' := by
  have HC := Lib.hid hcf
  clear hcf
  unfold cfgV
  cases hk : chkB c
  · have HK := Lib.hid hk
    clear hk
    go_enter Try.func20, Try.ntmps20
    go_wp2_with (go_at_call 10; refine (rCheck_no c _ (HC.out.alloc _) HK.out).mono ?_; rintro e w1 ⟨rfl, hb1⟩)
    go_ret
    exact ⟨ret_int (by simp [rbaseS, HK.out]), ((Below.refl _ _).alloc (Nat.le_refl _) _).trans (hb1.mono (by simp))⟩
  · have HK := Lib.hid hk
    obtain ⟨g1, g2, g3, g4, g5, g6, g7, g8, g9, g10, g11⟩ := chk_kind hk
    obtain ⟨p1, p2⟩ := prod_b c.chans (1 + c.cap) 8 17 (by omega) (by omega) (by omega) (by omega)
    obtain ⟨p3, p4⟩ := prod_b (c.patience + 3) (6 + 2 * (1 + c.chans * (1 + c.cap))) 7 400 (by omega) (by omega) (by omega) (by omega)
    obtain ⟨p5, p6⟩ := prod_b (c.patience + 3) (6 + 2 * (1 + c.cap)) 7 400 (by omega) (by omega) (by omega) (by omega)
    clear hk
    have HG := Lib.hid g11
    clear g11
    cases h3 : c.kind == 3
    all_goals
      go_enter Try.func20, Try.ntmps20
      go_wp2_with (first
        | (go_at_call 10; refine (rCheck_ok c _ (HC.out.alloc _) HK.out).mono ?_; rintro e w1 ⟨rfl, hb1⟩; obtain ⟨c0, c1, c2, c3, c4, c5, c6, c7, c8, c9, c10⟩ := ((BoxC.new w c).below hb1).all; have HB := Lib.hid (((Below.refl _ _).alloc (Nat.le_refl _) _).trans (hb1.mono (alloc_size _ _))); have HCW := Lib.hid (HC.out.below HB.out); clear hb1))
      go_ret
      refine ⟨ret_int ?_, HB.out⟩
      skip
      simp [rbaseS, HK.out, h3]

set_option maxHeartbeats 1000000 in
theorem Away_any (c : Cfg) (w : World) (hcf : CfgIn w c) :
    Calls Try.prog 21 #[cfgV c] w fun e w' => e = .returned (.int .i64 (awayS c)) ∧ Below w.heap.size w w' := by
  have HC := Lib.hid hcf
  clear hcf
  unfold cfgV
  cases hk : chkB c
  · have HK := Lib.hid hk
    clear hk
    go_enter Try.func21, Try.ntmps21
    go_wp2_with (go_at_call 65; refine (Check_no c _ (HC.out.alloc _) HK.out).mono ?_; rintro e w1 ⟨rfl, hb1⟩)
    go_ret
    exact ⟨ret_int (by simp [awayS, HK.out]), ((Below.refl _ _).alloc (Nat.le_refl _) _).trans (hb1.mono (by simp))⟩
  · have HK := Lib.hid hk
    obtain ⟨g1, g2, g3, g4, g5, g6, g7, g8, g9, g10, g11⟩ := chk_kind hk
    clear hk
    have HG := Lib.hid g11
    clear g11
    go_enter Try.func21, Try.ntmps21
    go_wp2_with (first
      | (go_at_call 65; refine (Check_ok c _ (HC.out.alloc _) HK.out).mono ?_; rintro e w1 ⟨rfl, hb1⟩; obtain ⟨c0, c1, c2, c3, c4, c5, c6, c7, c8, c9, c10⟩ := ((BoxC.new w c).below hb1).all; have HB := Lib.hid (((Below.refl _ _).alloc (Nat.le_refl _) _).trans (hb1.mono (alloc_size _ _))); have HCW := Lib.hid (HC.out.below HB.out); clear hb1))
    go_ret
    refine ⟨ret_int ?_, HB.out⟩
    skip
    simp [awayS, HK.out]

set_option maxHeartbeats 1000000 in
theorem rAway_any (c : Cfg) (w : World) (hcf : CfgIn w c) :
    Calls Try.prog 22 #[cfgV c] w fun e w' => e = .returned (.int .i64 (awayS c)) ∧ Below w.heap.size w w' := by
  have HC := Lib.hid hcf
  clear hcf
  unfold cfgV
  cases hk : chkB c
  · have HK := Lib.hid hk
    clear hk
    go_enter Try.func22, Try.ntmps22
    go_wp2_with (go_at_call 10; refine (rCheck_no c _ (HC.out.alloc _) HK.out).mono ?_; rintro e w1 ⟨rfl, hb1⟩)
    go_ret
    exact ⟨ret_int (by simp [awayS, HK.out]), ((Below.refl _ _).alloc (Nat.le_refl _) _).trans (hb1.mono (by simp))⟩
  · have HK := Lib.hid hk
    obtain ⟨g1, g2, g3, g4, g5, g6, g7, g8, g9, g10, g11⟩ := chk_kind hk
    clear hk
    have HG := Lib.hid g11
    clear g11
    go_enter Try.func22, Try.ntmps22
    go_wp2_with (first
      | (go_at_call 10; refine (rCheck_ok c _ (HC.out.alloc _) HK.out).mono ?_; rintro e w1 ⟨rfl, hb1⟩; obtain ⟨c0, c1, c2, c3, c4, c5, c6, c7, c8, c9, c10⟩ := ((BoxC.new w c).below hb1).all; have HB := Lib.hid (((Below.refl _ _).alloc (Nat.le_refl _) _).trans (hb1.mono (alloc_size _ _))); have HCW := Lib.hid (HC.out.below HB.out); clear hb1))
    go_ret
    refine ⟨ret_int ?_, HB.out⟩
    skip
    simp [awayS, HK.out]

set_option maxHeartbeats 1000000 in
theorem Enough_any (c : Cfg) (w : World) (hcf : CfgIn w c) :
    Calls Try.prog 24 #[cfgV c] w fun e w' => e = .returned (.int .i64 (enoughS c)) ∧ Below w.heap.size w w' := by
  have HC := Lib.hid hcf
  clear hcf
  unfold cfgV
  cases hk : chkB c
  · have HK := Lib.hid hk
    clear hk
    go_enter Try.func24, Try.ntmps24
    go_wp2_with (go_at_call 65; refine (Check_no c _ (HC.out.alloc _) HK.out).mono ?_; rintro e w1 ⟨rfl, hb1⟩)
    go_ret
    exact ⟨ret_int (by simp [enoughS, HK.out]), ((Below.refl _ _).alloc (Nat.le_refl _) _).trans (hb1.mono (by simp))⟩
  · have HK := Lib.hid hk
    obtain ⟨g1, g2, g3, g4, g5, g6, g7, g8, g9, g10, g11⟩ := chk_kind hk
    obtain ⟨r1, r2⟩ := away_b hk
    clear hk
    have HG := Lib.hid g11
    clear g11
    go_enter Try.func24, Try.ntmps24
    go_wp2_with (first
      | (go_at_call 65; refine (Check_ok c _ (HC.out.alloc _) HK.out).mono ?_; rintro e w1 ⟨rfl, hb1⟩; obtain ⟨c0, c1, c2, c3, c4, c5, c6, c7, c8, c9, c10⟩ := ((BoxC.new w c).below hb1).all; have HB := Lib.hid (((Below.refl _ _).alloc (Nat.le_refl _) _).trans (hb1.mono (alloc_size _ _))); have HCW := Lib.hid (HC.out.below HB.out); clear hb1)
      | (go_at_call 21; refine (Away_any c _ HCW.out).mono ?_; rintro e w2 ⟨rfl, hb2⟩))
    go_ret
    refine ⟨ret_int ?_, HB.out.trans (hb2.mono HB.out.size)⟩
    skip
    simp [enoughS, HK.out]


end Go.Proofs.Ytmllbailfbjoeaa
