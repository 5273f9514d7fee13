/- The document's Word, walked. -/
import Derived.Test.YtalkllfgedacoaaGreatDoorO21
import Derived.BigQuiet
import Derived.Deep.LoopGhost
import Derived.OwnWalk
namespace Go.Proofs.YtalkllfgedacoaaGreatDoor
open Go.RowKit Go.Sort

def whatS (c : Cfg) (a : Int) : Int × Int × Int :=
  if a < 0 ∨ totalS c ≤ a then (0, 0, 0)
  else if a < 3 then (1 + a, 0, 0)
  else if a < 3 + c.threads then (4, a - 3, 0)
  else if a < 3 + c.threads * 6 then (5, (a - (3 + c.threads)) / 5, (a - (3 + c.threads)) % 5)
  else if a < 3 + c.threads * 7 then (6, a - (3 + c.threads * 6), 0)
  else if a < 3 + c.threads * 8 then (7, a - (3 + c.threads * 7), 0)
  else if a < 3 + c.threads * 9 then (8, a - (3 + c.threads * 8), 0)
  else if (a - (3 + c.threads * 9)) % (1 + sizeS c) = 0 then (9, (a - (3 + c.threads * 9)) / (1 + sizeS c), 0)
  else (10, (a - (3 + c.threads * 9)) / (1 + sizeS c), (a - (3 + c.threads * 9)) % (1 + sizeS c) - 1)

abbrev whatV (p : Int × Int × Int) : Value := .tuple #[.int .i64 p.1, .int .i64 p.2.1, .int .i64 p.2.2]

theorem what_none {c : Cfg} {a : Int} (h : a < 0 ∨ totalS c ≤ a) : whatS c a = (0, 0, 0) := by unfold whatS; rw [if_pos h]
theorem what_once {c : Cfg} {a : Int} (h0 : 0 ≤ a) (ht : a < totalS c) (h3 : a < 3) : whatS c a = (1 + a, 0, 0) := by
  unfold whatS; rw [if_neg (by omega), if_pos h3]

theorem ret3 {a b c a' b' c' : Int} (h1 : a = a') (h2 : b = b') (h3 : c = c') : (Ending.returned (.tuple #[.int .i64 a, .int .i64 b, .int .i64 c]) : Ending) = .returned (.tuple #[.int .i64 a', .int .i64 b', .int .i64 c']) := by rw [h1, h2, h3]

theorem chk_of_total {c : Cfg} {a : Int} (h0 : 0 ≤ a) (ht : a < totalS c) : chkB c = true := by
  cases h : chkB c with
  | true => rfl
  | false => unfold totalS at ht; rw [h, if_neg (by decide)] at ht; omega

def loB (th : Int) : Nat → Int
  | 0 => 3
  | 1 => 3 + th
  | 2 => 3 + th * 6
  | 3 => 3 + th * 7
  | 4 => 3 + th * 8
  | _ => 3 + th * 9

set_option maxHeartbeats 4000000 in
set_option maxRecDepth 100000 in
theorem What_any (c : Cfg) (a : Int) (w : World) (hcf : CfgIn w c) :
    Calls Tryz.prog 74 #[cfgV c, .int .i64 a] w fun e w' => e = .returned (whatV (whatS c a)) ∧ Below w.heap.size w w' := by
  have HC := Lib.hid hcf
  have HB := Lib.hid ((Below.refl w.heap.size w).alloc (Nat.le_refl _) (.cells #[.int .i64 c.kind, .int .i64 c.threads, .int .i64 c.chans, .int .i64 c.cap, .int .i64 c.nodes, .int .i64 c.retire, .int .i64 c.patience, .int .i64 c.tags, .int .i64 c.seqs, .int .i64 c.gens, .slice c.sa c.start.length c.sc] 88))
  have HCW := Lib.hid (HC.out.below HB.out)
  have HX := Lib.hid (BoxC.new w c)
  have HT := Lib.hid (fun W h => Total_any c W h)
  clear hcf
  unfold cfgV
  unfold cfgV at HT
  by_cases h0 : a < 0
  · have HW := Lib.hid (what_none (c := c) (Or.inl h0))
    go_enter Tryz.func74, Tryz.ntmps74
    go_wp2_with fail
    go_ret3
    rw [HW.out]
    exact ⟨rfl, HB.out⟩
  have hx := HX.out.all
  obtain ⟨x0, x1, x2, x3, x4, x5, x6, x7, x8, x9, x10⟩ := hx
  have h0' : 0 ≤ a := by omega
  by_cases ht : totalS c ≤ a
  · have HW := Lib.hid (what_none (c := c) (Or.inr ht))
    go_enter Tryz.func74, Tryz.ntmps74
    go_wp2_with fail
    refine (HT.out _ HCW.out).mono ?_
    rintro e w1 ⟨rfl, hb1⟩
    go_wp2
    go_ret3
    rw [HW.out]
    exact ⟨rfl, HB.out.trans (hb1.mono HB.out.size)⟩
  have ht' : a < totalS c := by omega
  have hk := chk_of_total h0' ht'
  by_cases h3 : a < 3
  · have HW := Lib.hid (what_once (c := c) h0' ht' h3)
    go_enter Tryz.func74, Tryz.ntmps74
    go_wp2_with fail
    refine (HT.out _ HCW.out).mono ?_
    rintro e w1 ⟨rfl, hb1⟩
    go_wp2
    go_ret3
    rw [HW.out]
    exact ⟨rfl, HB.out.trans (hb1.mono HB.out.size)⟩
  obtain ⟨g1, g2, g3, g4, g5, g6, g7, g8, g9, g10, g11⟩ := chk_kind hk
  obtain ⟨s1, s2⟩ := size_b hk
  have htb := total_b hk
  have ha : a < 4600000 := by omega
  have HWS : RowKit.Hid (whatS c a = if a < 3 + c.threads then (4, a - 3, 0)
      else if a < 3 + c.threads * 6 then (5, (a - (3 + c.threads)) / 5, (a - (3 + c.threads)) % 5)
      else if a < 3 + c.threads * 7 then (6, a - (3 + c.threads * 6), 0)
      else if a < 3 + c.threads * 8 then (7, a - (3 + c.threads * 7), 0)
      else if a < 3 + c.threads * 9 then (8, a - (3 + c.threads * 8), 0)
      else if (a - (3 + c.threads * 9)) % (1 + sizeS c) = 0 then (9, (a - (3 + c.threads * 9)) / (1 + sizeS c), 0)
      else (10, (a - (3 + c.threads * 9)) / (1 + sizeS c), (a - (3 + c.threads * 9)) % (1 + sizeS c) - 1)) := Lib.hid (by unfold whatS; rw [if_neg (by omega), if_neg h3])
  clear htb g3 g4 g5 g6 g7 g8 g9 g10 g11 h0 ht hk
  have HH := Lib.hid (fun W => first_any c 9 W g1 g2 ⟨by decide, by decide⟩)
  have HF4 := Lib.hid (fun W => first_any c 4 W g1 g2 ⟨by decide, by decide⟩)
  have HF5 := Lib.hid (fun W => first_any c 5 W g1 g2 ⟨by decide, by decide⟩)
  have HF6 := Lib.hid (fun W => first_any c 6 W g1 g2 ⟨by decide, by decide⟩)
  have HF7 := Lib.hid (fun W => first_any c 7 W g1 g2 ⟨by decide, by decide⟩)
  have HF8 := Lib.hid (fun W => first_any c 8 W g1 g2 ⟨by decide, by decide⟩)
  have HSZ := Lib.hid (fun W h => Size_any c W h)
  rw [show firstS c.threads 9 = 3 + c.threads * 9 by simp [firstS]] at HH
  rw [show firstS c.threads 4 = 3 by simp [firstS]] at HF4
  rw [show firstS c.threads 5 = 3 + c.threads by simp [firstS]] at HF5
  rw [show firstS c.threads 6 = 3 + c.threads * 6 by simp [firstS]] at HF6
  rw [show firstS c.threads 7 = 3 + c.threads * 7 by simp [firstS]] at HF7
  rw [show firstS c.threads 8 = 3 + c.threads * 8 by simp [firstS]] at HF8
  unfold cfgV at HH HF4 HF5 HF6 HF7 HF8 HSZ
  generalize sizeS c = sz at *
  generalize hth : c.threads = th at *
  have HTH := Lib.hid hth
  clear hth
  go_enter Tryz.func74, Tryz.ntmps74
  go_wp2_with fail
  generalize (w.alloc (.cells #[.int .i64 c.kind, .int .i64 th, .int .i64 c.chans, .int .i64 c.cap, .int .i64 c.nodes, .int .i64 c.retire, .int .i64 c.patience, .int .i64 c.tags, .int .i64 c.seqs, .int .i64 c.gens, .slice c.sa c.start.length c.sc] 88)) = W0 at *
  clear x0 x1 x2 x3 x4 x5 x6 x7 x8 x9 x10
  refine (HT.out _ HCW.out).mono ?_
  rintro e w1 ⟨rfl, hb1⟩
  have HB1 := Lib.hid hb1
  clear hb1
  go_wp2_with fail
  have i0 : ∀ W, (Instr.index 171 (.agg #[.int .i64 4, .int .i64 5, .int .i64 6, .int .i64 7, .int .i64 8]) (.int .i64 0)).run Tryz.prog W = .ok (.int .i64 4) W := fun _ => by kernel_rfl
  have i1 : ∀ W, (Instr.index 171 (.agg #[.int .i64 4, .int .i64 5, .int .i64 6, .int .i64 7, .int .i64 8]) (.int .i64 1)).run Tryz.prog W = .ok (.int .i64 5) W := fun _ => by kernel_rfl
  have i2 : ∀ W, (Instr.index 171 (.agg #[.int .i64 4, .int .i64 5, .int .i64 6, .int .i64 7, .int .i64 8]) (.int .i64 2)).run Tryz.prog W = .ok (.int .i64 6) W := fun _ => by kernel_rfl
  have i3 : ∀ W, (Instr.index 171 (.agg #[.int .i64 4, .int .i64 5, .int .i64 6, .int .i64 7, .int .i64 8]) (.int .i64 3)).run Tryz.prog W = .ok (.int .i64 7) W := fun _ => by kernel_rfl
  have i4 : ∀ W, (Instr.index 171 (.agg #[.int .i64 4, .int .i64 5, .int .i64 6, .int .i64 7, .int .i64 8]) (.int .i64 4)).run Tryz.prog W = .ok (.int .i64 8) W := fun _ => by kernel_rfl
  go_loopg [26] 6 (fun g i wr => ∃ k : Nat, k ≤ 5 ∧ g = 6 - k ∧ i = .int .i64 k ∧ loB th k ≤ a ∧ Below W0.heap.size W0 wr)
  case atStart => exact ⟨0, by omega, rfl, rfl, (by show 3 ≤ a; omega), HB1.out⟩
  case round =>
    obtain ⟨k, hk5, hg, rfl, hlo, hb⟩ := hrel
    have HBW := Lib.hid hb
    have HG := Lib.hid hg
    clear hb hg HB1
    obtain ⟨x0, x1, x2, x3, x4, x5, x6, x7, x8, x9, x10⟩ := (HX.out.below HBW.out).all
    rw [HTH.out] at x1
    have hxl := (HX.out.below HBW.out).1
    rcases (show k = 0 ∨ k = 1 ∨ k = 2 ∨ k = 3 ∨ k = 4 ∨ k = 5 by omega) with rfl | rfl | rfl | rfl | rfl | rfl
    · have hlo' : 3 ≤ a := hlo
      have HLO := Lib.hid hlo'
      clear hlo
      have q0 : 0 ≤ a - (3) := by omega
      have q9 : ¬ a - (3) < 0 := by omega
      by_cases hhi : a < 3 + th
      · have HHI := Lib.hid hhi
        have q1 : a - (3) < 1 * th := by omega
        have HV := Lib.hid (show whatS c a = (4, a - 3, 0) by rw [HWS.out]; rw [if_pos hhi])
        clear hhi hlo'
        go_wp2_with (go_at_call 117; refine (HF4.out _).mono ?_; rintro e w2 ⟨rfl, hb2⟩; have HB2 := Lib.hid hb2; have y1 := (hb2.cell (p := ⟨w.heap.size, 1, none⟩) hxl).trans x1; clear hb2 x0 x1 x2 x3 x4 x5 x6 x7 x8 x9 x10)
        go_quiet (fail)
        go_wp2
        go_ret3
        refine ⟨?_, Below.drewN' (HB.out.trans ((HBW.out.trans (HB2.out.mono HBW.out.size)).mono HB.out.size)) _⟩
        rw [HV.out]
        rfl
      · have HHI := Lib.hid hhi
        have q1 : ¬ a - (3) < 1 * th := by omega
        clear hhi hlo'
        go_wp2_with (go_at_call 117; refine (HF4.out _).mono ?_; rintro e w2 ⟨rfl, hb2⟩; have HB2 := Lib.hid hb2; have y1 := (hb2.cell (p := ⟨w.heap.size, 1, none⟩) hxl).trans x1; clear hb2 x0 x1 x2 x3 x4 x5 x6 x7 x8 x9 x10)
        go_roundg 5
        case measure => rw [HG.out]; decide
        case rel => exact ⟨1, by omega, rfl, by go_num, (by show 3 + th ≤ a; have := HHI.out; omega), HBW.out.trans (HB2.out.mono HBW.out.size)⟩
    · have hlo' : 3 + th ≤ a := hlo
      have HLO := Lib.hid hlo'
      clear hlo
      have q0 : 0 ≤ a - (3 + th) := by omega
      have q9 : ¬ a - (3 + th) < 0 := by omega
      by_cases hhi : a < 3 + th * 6
      · have HHI := Lib.hid hhi
        have q1 : a - (3 + th) < 5 * th := by omega
        have HV := Lib.hid (show whatS c a = (5, (a - (3 + th)) / 5, (a - (3 + th)) % 5) by rw [HWS.out]; rw [if_neg (by omega)]; rw [if_pos hhi])
        clear hhi hlo'
        go_wp2_with (go_at_call 117; refine (HF5.out _).mono ?_; rintro e w2 ⟨rfl, hb2⟩; have HB2 := Lib.hid hb2; have y1 := (hb2.cell (p := ⟨w.heap.size, 1, none⟩) hxl).trans x1; clear hb2 x0 x1 x2 x3 x4 x5 x6 x7 x8 x9 x10)
        go_quiet (fail)
        go_wp2
        go_ret3
        refine ⟨?_, Below.drewN' (HB.out.trans ((HBW.out.trans (HB2.out.mono HBW.out.size)).mono HB.out.size)) _⟩
        rw [HV.out]
        rfl
      · have HHI := Lib.hid hhi
        have q1 : ¬ a - (3 + th) < 5 * th := by omega
        clear hhi hlo'
        go_wp2_with (go_at_call 117; refine (HF5.out _).mono ?_; rintro e w2 ⟨rfl, hb2⟩; have HB2 := Lib.hid hb2; have y1 := (hb2.cell (p := ⟨w.heap.size, 1, none⟩) hxl).trans x1; clear hb2 x0 x1 x2 x3 x4 x5 x6 x7 x8 x9 x10)
        go_roundg 4
        case measure => rw [HG.out]; decide
        case rel => exact ⟨2, by omega, rfl, by go_num, (by show 3 + th * 6 ≤ a; have := HHI.out; omega), HBW.out.trans (HB2.out.mono HBW.out.size)⟩
    · have hlo' : 3 + th * 6 ≤ a := hlo
      have HLO := Lib.hid hlo'
      clear hlo
      have q0 : 0 ≤ a - (3 + th * 6) := by omega
      have q9 : ¬ a - (3 + th * 6) < 0 := by omega
      by_cases hhi : a < 3 + th * 7
      · have HHI := Lib.hid hhi
        have q1 : a - (3 + th * 6) < 1 * th := by omega
        have HV := Lib.hid (show whatS c a = (6, a - (3 + th * 6), 0) by rw [HWS.out]; rw [if_neg (by omega)]; rw [if_neg (by omega)]; rw [if_pos hhi])
        clear hhi hlo'
        go_wp2_with (go_at_call 117; refine (HF6.out _).mono ?_; rintro e w2 ⟨rfl, hb2⟩; have HB2 := Lib.hid hb2; have y1 := (hb2.cell (p := ⟨w.heap.size, 1, none⟩) hxl).trans x1; clear hb2 x0 x1 x2 x3 x4 x5 x6 x7 x8 x9 x10)
        go_quiet (fail)
        go_wp2
        go_ret3
        refine ⟨?_, Below.drewN' (HB.out.trans ((HBW.out.trans (HB2.out.mono HBW.out.size)).mono HB.out.size)) _⟩
        rw [HV.out]
        rfl
      · have HHI := Lib.hid hhi
        have q1 : ¬ a - (3 + th * 6) < 1 * th := by omega
        clear hhi hlo'
        go_wp2_with (go_at_call 117; refine (HF6.out _).mono ?_; rintro e w2 ⟨rfl, hb2⟩; have HB2 := Lib.hid hb2; have y1 := (hb2.cell (p := ⟨w.heap.size, 1, none⟩) hxl).trans x1; clear hb2 x0 x1 x2 x3 x4 x5 x6 x7 x8 x9 x10)
        go_roundg 3
        case measure => rw [HG.out]; decide
        case rel => exact ⟨3, by omega, rfl, by go_num, (by show 3 + th * 7 ≤ a; have := HHI.out; omega), HBW.out.trans (HB2.out.mono HBW.out.size)⟩
    · have hlo' : 3 + th * 7 ≤ a := hlo
      have HLO := Lib.hid hlo'
      clear hlo
      have q0 : 0 ≤ a - (3 + th * 7) := by omega
      have q9 : ¬ a - (3 + th * 7) < 0 := by omega
      by_cases hhi : a < 3 + th * 8
      · have HHI := Lib.hid hhi
        have q1 : a - (3 + th * 7) < 1 * th := by omega
        have HV := Lib.hid (show whatS c a = (7, a - (3 + th * 7), 0) by rw [HWS.out]; rw [if_neg (by omega)]; rw [if_neg (by omega)]; rw [if_neg (by omega)]; rw [if_pos hhi])
        clear hhi hlo'
        go_wp2_with (go_at_call 117; refine (HF7.out _).mono ?_; rintro e w2 ⟨rfl, hb2⟩; have HB2 := Lib.hid hb2; have y1 := (hb2.cell (p := ⟨w.heap.size, 1, none⟩) hxl).trans x1; clear hb2 x0 x1 x2 x3 x4 x5 x6 x7 x8 x9 x10)
        go_quiet (fail)
        go_wp2
        go_ret3
        refine ⟨?_, Below.drewN' (HB.out.trans ((HBW.out.trans (HB2.out.mono HBW.out.size)).mono HB.out.size)) _⟩
        rw [HV.out]
        rfl
      · have HHI := Lib.hid hhi
        have q1 : ¬ a - (3 + th * 7) < 1 * th := by omega
        clear hhi hlo'
        go_wp2_with (go_at_call 117; refine (HF7.out _).mono ?_; rintro e w2 ⟨rfl, hb2⟩; have HB2 := Lib.hid hb2; have y1 := (hb2.cell (p := ⟨w.heap.size, 1, none⟩) hxl).trans x1; clear hb2 x0 x1 x2 x3 x4 x5 x6 x7 x8 x9 x10)
        go_roundg 2
        case measure => rw [HG.out]; decide
        case rel => exact ⟨4, by omega, rfl, by go_num, (by show 3 + th * 8 ≤ a; have := HHI.out; omega), HBW.out.trans (HB2.out.mono HBW.out.size)⟩
    · have hlo' : 3 + th * 8 ≤ a := hlo
      have HLO := Lib.hid hlo'
      clear hlo
      have q0 : 0 ≤ a - (3 + th * 8) := by omega
      have q9 : ¬ a - (3 + th * 8) < 0 := by omega
      by_cases hhi : a < 3 + th * 9
      · have HHI := Lib.hid hhi
        have q1 : a - (3 + th * 8) < 1 * th := by omega
        have HV := Lib.hid (show whatS c a = (8, a - (3 + th * 8), 0) by rw [HWS.out]; rw [if_neg (by omega)]; rw [if_neg (by omega)]; rw [if_neg (by omega)]; rw [if_neg (by omega)]; rw [if_pos hhi])
        clear hhi hlo'
        go_wp2_with (go_at_call 117; refine (HF8.out _).mono ?_; rintro e w2 ⟨rfl, hb2⟩; have HB2 := Lib.hid hb2; have y1 := (hb2.cell (p := ⟨w.heap.size, 1, none⟩) hxl).trans x1; clear hb2 x0 x1 x2 x3 x4 x5 x6 x7 x8 x9 x10)
        go_quiet (fail)
        go_wp2
        go_ret3
        refine ⟨?_, Below.drewN' (HB.out.trans ((HBW.out.trans (HB2.out.mono HBW.out.size)).mono HB.out.size)) _⟩
        rw [HV.out]
        rfl
      · have HHI := Lib.hid hhi
        have q1 : ¬ a - (3 + th * 8) < 1 * th := by omega
        clear hhi hlo'
        go_wp2_with (go_at_call 117; refine (HF8.out _).mono ?_; rintro e w2 ⟨rfl, hb2⟩; have HB2 := Lib.hid hb2; have y1 := (hb2.cell (p := ⟨w.heap.size, 1, none⟩) hxl).trans x1; clear hb2 x0 x1 x2 x3 x4 x5 x6 x7 x8 x9 x10)
        go_roundg 1
        case measure => rw [HG.out]; decide
        case rel => exact ⟨5, by omega, rfl, by go_num, (by show 3 + th * 9 ≤ a; have := HHI.out; omega), HBW.out.trans (HB2.out.mono HBW.out.size)⟩
    · have hlo' : 3 + th * 9 ≤ a := hlo
      have HLO := Lib.hid hlo'
      clear hlo
      have q0 : 0 ≤ a - (3 + th * 9) := by omega
      have q1 : 0 < 1 + sz := by omega
      generalize hu : a - (3 + th * 9) = u at *
      have HU := Lib.hid hu
      have q2 : u ≤ 4600000 := by omega
      have q3 : 0 ≤ u % (1 + sz) := Int.emod_nonneg _ (by omega)
      have q4 : u % (1 + sz) < 1 + sz := Int.emod_lt_of_pos _ q1
      by_cases hr : u % (1 + sz) = 0
      · have HV := Lib.hid (show whatS c a = (9, u / (1 + sz), 0) by rw [HWS.out]; rw [if_neg (by omega)]; rw [if_neg (by omega)]; rw [if_neg (by omega)]; rw [if_neg (by omega)]; rw [if_neg (by omega)]; rw [if_pos hr])
        have b1 : (u % (1 + sz) == 0) = true := by simp [hr]
        clear hr hlo'
        go_wp2_with (first
          | (go_at_call 118; refine (HSZ.out _ (HCW.out.below HBW.out)).mono ?_; rintro e w2 ⟨rfl, hb2⟩; have HB2 := Lib.hid (HBW.out.trans (hb2.mono HBW.out.size)); obtain ⟨y0, y1, y2, y3, y4, y5, y6, y7, y8, y9, y10⟩ := (HX.out.below HB2.out).all; rw [HTH.out] at y1; clear hb2 x0 x1 x2 x3 x4 x5 x6 x7 x8 x9 x10)
          | (go_at_call 117; refine (HH.out _).mono ?_; rintro e w3 ⟨rfl, hb3⟩; have HB3 := Lib.hid (HB2.out.trans (hb3.mono HB2.out.size)); clear hb3))
        go_quiet (fail)
        go_wp2
        go_ret3
        refine ⟨?_, Below.drewN' (HB.out.trans (HB3.out.mono HB.out.size)) _⟩
        rw [HV.out]
        rfl
      · have HV := Lib.hid (show whatS c a = (10, u / (1 + sz), u % (1 + sz) - 1) by rw [HWS.out]; rw [if_neg (by omega)]; rw [if_neg (by omega)]; rw [if_neg (by omega)]; rw [if_neg (by omega)]; rw [if_neg (by omega)]; rw [if_neg hr])
        have b1 : (u % (1 + sz) == 0) = false := by simp [hr]
        clear hr hlo'
        go_wp2_with (first
          | (go_at_call 118; refine (HSZ.out _ (HCW.out.below HBW.out)).mono ?_; rintro e w2 ⟨rfl, hb2⟩; have HB2 := Lib.hid (HBW.out.trans (hb2.mono HBW.out.size)); obtain ⟨y0, y1, y2, y3, y4, y5, y6, y7, y8, y9, y10⟩ := (HX.out.below HB2.out).all; rw [HTH.out] at y1; clear hb2 x0 x1 x2 x3 x4 x5 x6 x7 x8 x9 x10)
          | (go_at_call 117; refine (HH.out _).mono ?_; rintro e w3 ⟨rfl, hb3⟩; have HB3 := Lib.hid (HB2.out.trans (hb3.mono HB2.out.size)); clear hb3))
        go_quiet (fail)
        go_wp2
        go_ret3
        refine ⟨?_, Below.drewN' (HB.out.trans (HB3.out.mono HB.out.size)) _⟩
        rw [HV.out]
        rfl

end Go.Proofs.YtalkllfgedacoaaGreatDoor

namespace Go.Proofs.YtalkllfgedacoaaGreatDoor
open Go.RowKit Go.Sort

end Go.Proofs.YtalkllfgedacoaaGreatDoor

namespace Go.Proofs.YtalkllfgedacoaaGreatDoor
open Go.RowKit Go.Sort

def wordS (s of pl : Int) (u : Nat) : ByteArray :=
  if s = 1 then ⟨#[114, 111, 111, 116, 32]⟩ ++ nameWS u
  else if s = 2 then ⟨#[101, 112, 111, 99, 104, 32]⟩ ++ udecS u
  else if s = 3 then ⟨#[112, 104, 97, 115, 101, 32]⟩ ++ udecS u
  else if s = 4 then ⟨#[115, 101, 113]⟩ ++ (⟨#[32]⟩ ++ itoaS of ++ ⟨#[32]⟩) ++ udecS u
  else if s = 5 then ⟨#[97, 114, 103, 115]⟩ ++ (⟨#[32]⟩ ++ itoaS of ++ ⟨#[32]⟩) ++ itoaS pl ++ ⟨#[32]⟩ ++ hexS u
  else if s = 6 then ⟨#[103, 117, 97, 114, 100]⟩ ++ (⟨#[32]⟩ ++ itoaS of ++ ⟨#[32]⟩) ++ nameWS u
  else if s = 7 then ⟨#[105, 110]⟩ ++ (⟨#[32]⟩ ++ itoaS of ++ ⟨#[32]⟩) ++ insideS u
  else if s = 8 then ⟨#[109, 97, 105, 108]⟩ ++ (⟨#[32]⟩ ++ itoaS of ++ ⟨#[32]⟩) ++ resS (rrOf u)
  else if s = 9 then ⟨#[116, 97, 103]⟩ ++ (⟨#[32]⟩ ++ itoaS of ++ ⟨#[32]⟩) ++ udecS u
  else if s = 10 then ⟨#[119, 111, 114, 100]⟩ ++ (⟨#[32]⟩ ++ itoaS of ++ ⟨#[32]⟩) ++ itoaS pl ++ ⟨#[32]⟩ ++ hexS u
  else ⟨#[110, 111, 116, 104, 105, 110, 103]⟩
theorem wordS_0 (of pl : Int) (u : Nat) : wordS 0 of pl u = ⟨#[110, 111, 116, 104, 105, 110, 103]⟩ := by simp [wordS]
theorem wordS_1 (of pl : Int) (u : Nat) : wordS 1 of pl u = ⟨#[114, 111, 111, 116, 32]⟩ ++ nameWS u := by unfold wordS; rw [if_pos rfl]
theorem wordS_2 (of pl : Int) (u : Nat) : wordS 2 of pl u = ⟨#[101, 112, 111, 99, 104, 32]⟩ ++ udecS u := by unfold wordS; rw [if_neg (by decide)]; rw [if_pos rfl]
theorem wordS_3 (of pl : Int) (u : Nat) : wordS 3 of pl u = ⟨#[112, 104, 97, 115, 101, 32]⟩ ++ udecS u := by unfold wordS; rw [if_neg (by decide)]; rw [if_neg (by decide)]; rw [if_pos rfl]
theorem wordS_4 (of pl : Int) (u : Nat) : wordS 4 of pl u = ⟨#[115, 101, 113]⟩ ++ (⟨#[32]⟩ ++ itoaS of ++ ⟨#[32]⟩) ++ udecS u := by unfold wordS; rw [if_neg (by decide)]; rw [if_neg (by decide)]; rw [if_neg (by decide)]; rw [if_pos rfl]
theorem wordS_5 (of pl : Int) (u : Nat) : wordS 5 of pl u = ⟨#[97, 114, 103, 115]⟩ ++ (⟨#[32]⟩ ++ itoaS of ++ ⟨#[32]⟩) ++ itoaS pl ++ ⟨#[32]⟩ ++ hexS u := by unfold wordS; rw [if_neg (by decide)]; rw [if_neg (by decide)]; rw [if_neg (by decide)]; rw [if_neg (by decide)]; rw [if_pos rfl]
theorem wordS_6 (of pl : Int) (u : Nat) : wordS 6 of pl u = ⟨#[103, 117, 97, 114, 100]⟩ ++ (⟨#[32]⟩ ++ itoaS of ++ ⟨#[32]⟩) ++ nameWS u := by unfold wordS; rw [if_neg (by decide)]; rw [if_neg (by decide)]; rw [if_neg (by decide)]; rw [if_neg (by decide)]; rw [if_neg (by decide)]; rw [if_pos rfl]
theorem wordS_7 (of pl : Int) (u : Nat) : wordS 7 of pl u = ⟨#[105, 110]⟩ ++ (⟨#[32]⟩ ++ itoaS of ++ ⟨#[32]⟩) ++ insideS u := by unfold wordS; rw [if_neg (by decide)]; rw [if_neg (by decide)]; rw [if_neg (by decide)]; rw [if_neg (by decide)]; rw [if_neg (by decide)]; rw [if_neg (by decide)]; rw [if_pos rfl]
theorem wordS_8 (of pl : Int) (u : Nat) : wordS 8 of pl u = ⟨#[109, 97, 105, 108]⟩ ++ (⟨#[32]⟩ ++ itoaS of ++ ⟨#[32]⟩) ++ resS (rrOf u) := by unfold wordS; rw [if_neg (by decide)]; rw [if_neg (by decide)]; rw [if_neg (by decide)]; rw [if_neg (by decide)]; rw [if_neg (by decide)]; rw [if_neg (by decide)]; rw [if_neg (by decide)]; rw [if_pos rfl]
theorem wordS_9 (of pl : Int) (u : Nat) : wordS 9 of pl u = ⟨#[116, 97, 103]⟩ ++ (⟨#[32]⟩ ++ itoaS of ++ ⟨#[32]⟩) ++ udecS u := by unfold wordS; rw [if_neg (by decide)]; rw [if_neg (by decide)]; rw [if_neg (by decide)]; rw [if_neg (by decide)]; rw [if_neg (by decide)]; rw [if_neg (by decide)]; rw [if_neg (by decide)]; rw [if_neg (by decide)]; rw [if_pos rfl]
theorem wordS_10 (of pl : Int) (u : Nat) : wordS 10 of pl u = ⟨#[119, 111, 114, 100]⟩ ++ (⟨#[32]⟩ ++ itoaS of ++ ⟨#[32]⟩) ++ itoaS pl ++ ⟨#[32]⟩ ++ hexS u := by unfold wordS; rw [if_neg (by decide)]; rw [if_neg (by decide)]; rw [if_neg (by decide)]; rw [if_neg (by decide)]; rw [if_neg (by decide)]; rw [if_neg (by decide)]; rw [if_neg (by decide)]; rw [if_neg (by decide)]; rw [if_neg (by decide)]; rw [if_pos rfl]

theorem what_b {c : Cfg} {a : Int} : 0 ≤ (whatS c a).1 ∧ (whatS c a).1 ≤ 10 ∧ 0 ≤ (whatS c a).2.1 ∧ (whatS c a).2.1 ≤ 4600000 ∧ -1 ≤ (whatS c a).2.2 ∧ (whatS c a).2.2 ≤ 4600000 := by
  by_cases h0 : a < 0 ∨ totalS c ≤ a
  · rw [what_none h0]; simp
  have hk := chk_of_total (c := c) (a := a) (by omega) (by omega)
  have hb := total_b hk
  obtain ⟨g1, g2, _⟩ := chk_kind hk
  obtain ⟨s1, s2⟩ := size_b hk
  unfold whatS
  rw [if_neg h0]
  repeat' split
  all_goals simp only
  all_goals try omega
  · have h1 := Int.ediv_nonneg (show 0 ≤ a - (3 + c.threads * 9) by omega) (show 0 ≤ 1 + sizeS c by omega)
    have h2 := Int.ediv_le_self (1 + sizeS c) (show 0 ≤ a - (3 + c.threads * 9) by omega)
    omega
  · have h1 := Int.ediv_nonneg (show 0 ≤ a - (3 + c.threads * 9) by omega) (show 0 ≤ 1 + sizeS c by omega)
    have h2 := Int.ediv_le_self (1 + sizeS c) (show 0 ≤ a - (3 + c.threads * 9) by omega)
    have h3 := Int.emod_nonneg (a - (3 + c.threads * 9)) (show 1 + sizeS c ≠ 0 by omega)
    have h4 := Int.emod_lt_of_pos (a - (3 + c.threads * 9)) (show 0 < 1 + sizeS c by omega)
    omega

theorem insideS_size (u : Nat) (hu : u < 18446744073709551616) : (insideS u).size ≤ 20 := by
  unfold insideS
  split
  · decide
  · exact udecS_size _ (by omega)
theorem rr_in (u : Nat) (hu : u < 18446744073709551616) : In64 (rrOf u).seq ∧ In64 (rrOf u).value ∧ In64 (rrOf u).case_ := by
  unfold rrOf In64; simp only; omega

set_option maxHeartbeats 16000000 in
set_option maxRecDepth 100000 in
theorem vWord_any (c : Cfg) (a : Int) (u : Nat) (w : World) (hcf : CfgIn w c) (hu : u < 18446744073709551616) (ht : TabT w) (hz : Tz16 w) :
    Calls Tryz.prog 40 #[cfgV c, .int .i64 a, .int .u64 u] w fun e w' => e = .returned (.string (wordS (whatS c a).1 (whatS c a).2.1 (whatS c a).2.2 u)) ∧ Below w.heap.size w w' := by
  obtain ⟨b1, b2, b3, b4, b5, b6⟩ := what_b (c := c) (a := a)
  have HC := Lib.hid hcf
  have HB0 := Lib.hid ((Below.refl w.heap.size w).alloc (Nat.le_refl _) (.cells #[.int .i64 c.kind, .int .i64 c.threads, .int .i64 c.chans, .int .i64 c.cap, .int .i64 c.nodes, .int .i64 c.retire, .int .i64 c.patience, .int .i64 c.tags, .int .i64 c.seqs, .int .i64 c.gens, .slice c.sa c.start.length c.sc] 88))
  have HCW := Lib.hid (HC.out.below HB0.out)
  have HX := Lib.hid (BoxC.new w c)
  have HW := Lib.hid (fun W h => What_any c a W h)
  have HWE : RowKit.Hid (whatS c a = whatS c a) := Lib.hid rfl
  generalize hp : whatS c a = p at *
  obtain ⟨s, of, pl⟩ := p
  simp only at b1 b2 b3 b4 b5 b6 HW
  have HP := Lib.hid hp
  have ho : In64 of := ⟨by omega, by omega⟩
  have hpl : In64 pl := ⟨by omega, by omega⟩
  have HDO := Lib.hid (fun W h => dec_any of W ho h)
  have HDP := Lib.hid (fun W h => dec_any pl W hpl h)
  have HNM := Lib.hid (fun W h h' => name_any' u W hu h h')
  have HFU := Lib.hid (fun W h => FormatUint10 u hu W h)
  have HHX := Lib.hid (fun W h => vhx_any u W hu h)
  have HIN := Lib.hid (fun W h => inside_any u W hu h)
  have HRR := Lib.hid (fun W => ReadResult_any u hu W)
  have HRS := Lib.hid (fun W h => vRes_any (rrOf u) W (rr_in u hu).1 (rr_in u hu).2.1 (rr_in u hu).2.2 h)
  have HT := Lib.hid ht
  have HZ := Lib.hid hz
  clear ht hz
  have so := itoaS_size ho
  have sp := itoaS_size hpl
  have sn := nameWS_size u hu
  have sd := udecS_size u hu
  have sh := hexS_size u hu
  have si := insideS_size u hu
  have sr := resS_size (rr_in u hu).1 (rr_in u hu).2.1 (rr_in u hu).2.2
  have HV0 := Lib.hid (wordS_0 of pl u)
  have HV1 := Lib.hid (wordS_1 of pl u)
  have HV2 := Lib.hid (wordS_2 of pl u)
  have HV3 := Lib.hid (wordS_3 of pl u)
  have HV4 := Lib.hid (wordS_4 of pl u)
  have HV5 := Lib.hid (wordS_5 of pl u)
  have HV6 := Lib.hid (wordS_6 of pl u)
  have HV7 := Lib.hid (wordS_7 of pl u)
  have HV8 := Lib.hid (wordS_8 of pl u)
  have HV9 := Lib.hid (wordS_9 of pl u)
  have HV10 := Lib.hid (wordS_10 of pl u)
  have HPO : RowKit.Hid (∀ W' R, wordS s of pl u = R → Below w.heap.size w W' → (Ending.returned (.string R) : Ending) = .returned (.string (wordS s of pl u)) ∧ Below w.heap.size w W') := Lib.hid (fun W' R h hb => ⟨by rw [← h], hb⟩)
  clear hcf ho hpl hp HP HWE
  generalize hrr : rrOf u = rr at *
  clear hrr
  obtain ⟨r1, r2, r3, r4⟩ := rr
  unfold rsV at HRR HRS
  simp only at HRR HRS
  generalize itoaS of = zo at *
  generalize itoaS pl = zp at *
  generalize nameWS u = nm at *
  generalize udecS u = du at *
  generalize hexS u = hx at *
  generalize insideS u = iu at *
  generalize hrs : resS ⟨r1, r2, r3, r4⟩ = rs at *
  clear hrs hu
  have e1 : ¬ 9223372036854775807 < 1 + zo.size := by omega
  have e2 : ¬ 9223372036854775807 < 1 + zo.size + 1 := by omega
  unfold cfgV
  unfold cfgV at HW
  rcases (show s = 0 ∨ s = 1 ∨ s = 2 ∨ s = 3 ∨ s = 4 ∨ s = 5 ∨ s = 6 ∨ s = 7 ∨ s = 8 ∨ s = 9 ∨ s = 10 by omega) with rfl | rfl | rfl | rfl | rfl | rfl | rfl | rfl | rfl | rfl | rfl
  · clear b1 b2 b3 b4 b5 b6 HV1 HV2 HV3 HV4 HV5 HV6 HV7 HV8 HV9 HV10
    go_enter Tryz.func40, Tryz.ntmps40
    go_wp2_with fail
    generalize w.alloc (.cells #[.int .i64 c.kind, .int .i64 c.threads, .int .i64 c.chans, .int .i64 c.cap, .int .i64 c.nodes, .int .i64 c.retire, .int .i64 c.patience, .int .i64 c.tags, .int .i64 c.seqs, .int .i64 c.gens, .slice c.sa c.start.length c.sc] 88) = W0 at *
    refine (HW.out _ HCW.out).mono ?_
    rintro e w1 ⟨rfl, hb1⟩
    have HB1 := Lib.hid (HB0.out.trans (hb1.mono HB0.out.size))
    clear hb1
    go_wp2_with fail
    refine (HDO.out _ (HT.out.below HB1.out)).mono ?_
    rintro e w2 ⟨rfl, hb2⟩
    have HB2 := Lib.hid (HB1.out.trans (hb2.mono HB1.out.size))
    clear hb2
    go_wp2
    go_ret
    exact HPO.out _ _ (by rw [HV0.out]) HB2.out
  · clear b1 b2 b3 b4 b5 b6 HV0 HV2 HV3 HV4 HV5 HV6 HV7 HV8 HV9 HV10
    go_enter Tryz.func40, Tryz.ntmps40
    go_wp2_with fail
    generalize w.alloc (.cells #[.int .i64 c.kind, .int .i64 c.threads, .int .i64 c.chans, .int .i64 c.cap, .int .i64 c.nodes, .int .i64 c.retire, .int .i64 c.patience, .int .i64 c.tags, .int .i64 c.seqs, .int .i64 c.gens, .slice c.sa c.start.length c.sc] 88) = W0 at *
    refine (HW.out _ HCW.out).mono ?_
    rintro e w1 ⟨rfl, hb1⟩
    have HB1 := Lib.hid (HB0.out.trans (hb1.mono HB0.out.size))
    clear hb1
    go_wp2_with fail
    refine (HDO.out _ (HT.out.below HB1.out)).mono ?_
    rintro e w2 ⟨rfl, hb2⟩
    have HB2 := Lib.hid (HB1.out.trans (hb2.mono HB1.out.size))
    clear hb2
    have f0 : ¬ 9223372036854775807 < 5 + nm.size := by omega
    go_wp2_with fail
    refine (HNM.out _ (HT.out.below HB2.out) (HZ.out.below HB2.out)).mono ?_
    rintro e w3 ⟨rfl, hb3⟩
    have HB3 := Lib.hid (HB2.out.trans (hb3.mono HB2.out.size))
    clear hb3
    go_wp2
    go_ret
    exact HPO.out _ _ (by rw [HV1.out]) HB3.out
  · clear b1 b2 b3 b4 b5 b6 HV0 HV1 HV3 HV4 HV5 HV6 HV7 HV8 HV9 HV10
    go_enter Tryz.func40, Tryz.ntmps40
    go_wp2_with fail
    generalize w.alloc (.cells #[.int .i64 c.kind, .int .i64 c.threads, .int .i64 c.chans, .int .i64 c.cap, .int .i64 c.nodes, .int .i64 c.retire, .int .i64 c.patience, .int .i64 c.tags, .int .i64 c.seqs, .int .i64 c.gens, .slice c.sa c.start.length c.sc] 88) = W0 at *
    refine (HW.out _ HCW.out).mono ?_
    rintro e w1 ⟨rfl, hb1⟩
    have HB1 := Lib.hid (HB0.out.trans (hb1.mono HB0.out.size))
    clear hb1
    go_wp2_with fail
    refine (HDO.out _ (HT.out.below HB1.out)).mono ?_
    rintro e w2 ⟨rfl, hb2⟩
    have HB2 := Lib.hid (HB1.out.trans (hb2.mono HB1.out.size))
    clear hb2
    have f0 : ¬ 9223372036854775807 < 6 + du.size := by omega
    go_wp2_with fail
    refine (HFU.out _ (HT.out.below HB2.out)).mono ?_
    rintro e w3 ⟨rfl, hb3⟩
    have HB3 := Lib.hid (HB2.out.trans (hb3.mono HB2.out.size))
    clear hb3
    go_wp2
    go_ret
    exact HPO.out _ _ (by rw [HV2.out]) HB3.out
  · clear b1 b2 b3 b4 b5 b6 HV0 HV1 HV2 HV4 HV5 HV6 HV7 HV8 HV9 HV10
    go_enter Tryz.func40, Tryz.ntmps40
    go_wp2_with fail
    generalize w.alloc (.cells #[.int .i64 c.kind, .int .i64 c.threads, .int .i64 c.chans, .int .i64 c.cap, .int .i64 c.nodes, .int .i64 c.retire, .int .i64 c.patience, .int .i64 c.tags, .int .i64 c.seqs, .int .i64 c.gens, .slice c.sa c.start.length c.sc] 88) = W0 at *
    refine (HW.out _ HCW.out).mono ?_
    rintro e w1 ⟨rfl, hb1⟩
    have HB1 := Lib.hid (HB0.out.trans (hb1.mono HB0.out.size))
    clear hb1
    go_wp2_with fail
    refine (HDO.out _ (HT.out.below HB1.out)).mono ?_
    rintro e w2 ⟨rfl, hb2⟩
    have HB2 := Lib.hid (HB1.out.trans (hb2.mono HB1.out.size))
    clear hb2
    have f0 : ¬ 9223372036854775807 < 6 + du.size := by omega
    go_wp2_with fail
    refine (HFU.out _ (HT.out.below HB2.out)).mono ?_
    rintro e w3 ⟨rfl, hb3⟩
    have HB3 := Lib.hid (HB2.out.trans (hb3.mono HB2.out.size))
    clear hb3
    go_wp2
    go_ret
    exact HPO.out _ _ (by rw [HV3.out]) HB3.out
  · clear b1 b2 b3 b4 b5 b6 HV0 HV1 HV2 HV3 HV5 HV6 HV7 HV8 HV9 HV10
    go_enter Tryz.func40, Tryz.ntmps40
    go_wp2_with fail
    generalize w.alloc (.cells #[.int .i64 c.kind, .int .i64 c.threads, .int .i64 c.chans, .int .i64 c.cap, .int .i64 c.nodes, .int .i64 c.retire, .int .i64 c.patience, .int .i64 c.tags, .int .i64 c.seqs, .int .i64 c.gens, .slice c.sa c.start.length c.sc] 88) = W0 at *
    refine (HW.out _ HCW.out).mono ?_
    rintro e w1 ⟨rfl, hb1⟩
    have HB1 := Lib.hid (HB0.out.trans (hb1.mono HB0.out.size))
    clear hb1
    go_wp2_with fail
    refine (HDO.out _ (HT.out.below HB1.out)).mono ?_
    rintro e w2 ⟨rfl, hb2⟩
    have HB2 := Lib.hid (HB1.out.trans (hb2.mono HB1.out.size))
    clear hb2
    go_upto_region 3 with (fail)
    have sa : (⟨#[32]⟩ ++ zo ++ ⟨#[32]⟩ : ByteArray).size ≤ 23 := by rw [ByteArray.size_append, ByteArray.size_append]; show 1 + zo.size + 1 ≤ 23; omega
    generalize (⟨#[32]⟩ ++ zo ++ ⟨#[32]⟩ : ByteArray) = at_ at *
    have f0 : ¬ 9223372036854775807 < 3 + at_.size := by omega
    have f1 : ¬ 9223372036854775807 < 3 + at_.size + du.size := by omega
    go_wp2_with fail
    refine (HFU.out _ (HT.out.below HB2.out)).mono ?_
    rintro e w3 ⟨rfl, hb3⟩
    have HB3 := Lib.hid (HB2.out.trans (hb3.mono HB2.out.size))
    clear hb3
    go_wp2
    go_ret
    exact HPO.out _ _ (by rw [HV4.out]) HB3.out
  · clear b1 b2 b3 b4 b5 b6 HV0 HV1 HV2 HV3 HV4 HV6 HV7 HV8 HV9 HV10
    go_enter Tryz.func40, Tryz.ntmps40
    go_wp2_with fail
    generalize w.alloc (.cells #[.int .i64 c.kind, .int .i64 c.threads, .int .i64 c.chans, .int .i64 c.cap, .int .i64 c.nodes, .int .i64 c.retire, .int .i64 c.patience, .int .i64 c.tags, .int .i64 c.seqs, .int .i64 c.gens, .slice c.sa c.start.length c.sc] 88) = W0 at *
    refine (HW.out _ HCW.out).mono ?_
    rintro e w1 ⟨rfl, hb1⟩
    have HB1 := Lib.hid (HB0.out.trans (hb1.mono HB0.out.size))
    clear hb1
    go_wp2_with fail
    refine (HDO.out _ (HT.out.below HB1.out)).mono ?_
    rintro e w2 ⟨rfl, hb2⟩
    have HB2 := Lib.hid (HB1.out.trans (hb2.mono HB1.out.size))
    clear hb2
    go_upto_region 3 with (fail)
    have sa : (⟨#[32]⟩ ++ zo ++ ⟨#[32]⟩ : ByteArray).size ≤ 23 := by rw [ByteArray.size_append, ByteArray.size_append]; show 1 + zo.size + 1 ≤ 23; omega
    generalize (⟨#[32]⟩ ++ zo ++ ⟨#[32]⟩ : ByteArray) = at_ at *
    have f0 : ¬ 9223372036854775807 < 4 + at_.size := by omega
    have f1 : ¬ 9223372036854775807 < 4 + at_.size + zp.size := by omega
    have f2 : ¬ 9223372036854775807 < 4 + at_.size + zp.size + 1 := by omega
    have f3 : ¬ 9223372036854775807 < 4 + at_.size + zp.size + 1 + hx.size := by omega
    go_wp2_with fail
    refine (HDP.out _ (HT.out.below HB2.out)).mono ?_
    rintro e w3 ⟨rfl, hb3⟩
    have HB3 := Lib.hid (HB2.out.trans (hb3.mono HB2.out.size))
    clear hb3
    go_wp2_with fail
    refine (HHX.out _ (HZ.out.below HB3.out)).mono ?_
    rintro e w4 ⟨rfl, hb4⟩
    have HB4 := Lib.hid (HB3.out.trans (hb4.mono HB3.out.size))
    clear hb4
    go_wp2
    go_ret
    exact HPO.out _ _ (by rw [HV5.out]) HB4.out
  · clear b1 b2 b3 b4 b5 b6 HV0 HV1 HV2 HV3 HV4 HV5 HV7 HV8 HV9 HV10
    go_enter Tryz.func40, Tryz.ntmps40
    go_wp2_with fail
    generalize w.alloc (.cells #[.int .i64 c.kind, .int .i64 c.threads, .int .i64 c.chans, .int .i64 c.cap, .int .i64 c.nodes, .int .i64 c.retire, .int .i64 c.patience, .int .i64 c.tags, .int .i64 c.seqs, .int .i64 c.gens, .slice c.sa c.start.length c.sc] 88) = W0 at *
    refine (HW.out _ HCW.out).mono ?_
    rintro e w1 ⟨rfl, hb1⟩
    have HB1 := Lib.hid (HB0.out.trans (hb1.mono HB0.out.size))
    clear hb1
    go_wp2_with fail
    refine (HDO.out _ (HT.out.below HB1.out)).mono ?_
    rintro e w2 ⟨rfl, hb2⟩
    have HB2 := Lib.hid (HB1.out.trans (hb2.mono HB1.out.size))
    clear hb2
    go_upto_region 3 with (fail)
    have sa : (⟨#[32]⟩ ++ zo ++ ⟨#[32]⟩ : ByteArray).size ≤ 23 := by rw [ByteArray.size_append, ByteArray.size_append]; show 1 + zo.size + 1 ≤ 23; omega
    generalize (⟨#[32]⟩ ++ zo ++ ⟨#[32]⟩ : ByteArray) = at_ at *
    have f0 : ¬ 9223372036854775807 < 5 + at_.size := by omega
    have f1 : ¬ 9223372036854775807 < 5 + at_.size + nm.size := by omega
    go_wp2_with fail
    refine (HNM.out _ (HT.out.below HB2.out) (HZ.out.below HB2.out)).mono ?_
    rintro e w3 ⟨rfl, hb3⟩
    have HB3 := Lib.hid (HB2.out.trans (hb3.mono HB2.out.size))
    clear hb3
    go_wp2
    go_ret
    exact HPO.out _ _ (by rw [HV6.out]) HB3.out
  · clear b1 b2 b3 b4 b5 b6 HV0 HV1 HV2 HV3 HV4 HV5 HV6 HV8 HV9 HV10
    go_enter Tryz.func40, Tryz.ntmps40
    go_wp2_with fail
    generalize w.alloc (.cells #[.int .i64 c.kind, .int .i64 c.threads, .int .i64 c.chans, .int .i64 c.cap, .int .i64 c.nodes, .int .i64 c.retire, .int .i64 c.patience, .int .i64 c.tags, .int .i64 c.seqs, .int .i64 c.gens, .slice c.sa c.start.length c.sc] 88) = W0 at *
    refine (HW.out _ HCW.out).mono ?_
    rintro e w1 ⟨rfl, hb1⟩
    have HB1 := Lib.hid (HB0.out.trans (hb1.mono HB0.out.size))
    clear hb1
    go_wp2_with fail
    refine (HDO.out _ (HT.out.below HB1.out)).mono ?_
    rintro e w2 ⟨rfl, hb2⟩
    have HB2 := Lib.hid (HB1.out.trans (hb2.mono HB1.out.size))
    clear hb2
    go_upto_region 3 with (fail)
    have sa : (⟨#[32]⟩ ++ zo ++ ⟨#[32]⟩ : ByteArray).size ≤ 23 := by rw [ByteArray.size_append, ByteArray.size_append]; show 1 + zo.size + 1 ≤ 23; omega
    generalize (⟨#[32]⟩ ++ zo ++ ⟨#[32]⟩ : ByteArray) = at_ at *
    have f0 : ¬ 9223372036854775807 < 2 + at_.size := by omega
    have f1 : ¬ 9223372036854775807 < 2 + at_.size + iu.size := by omega
    go_wp2_with fail
    refine (HIN.out _ (HT.out.below HB2.out)).mono ?_
    rintro e w3 ⟨rfl, hb3⟩
    have HB3 := Lib.hid (HB2.out.trans (hb3.mono HB2.out.size))
    clear hb3
    go_wp2
    go_ret
    exact HPO.out _ _ (by rw [HV7.out]) HB3.out
  · clear b1 b2 b3 b4 b5 b6 HV0 HV1 HV2 HV3 HV4 HV5 HV6 HV7 HV9 HV10
    go_enter Tryz.func40, Tryz.ntmps40
    go_wp2_with fail
    generalize w.alloc (.cells #[.int .i64 c.kind, .int .i64 c.threads, .int .i64 c.chans, .int .i64 c.cap, .int .i64 c.nodes, .int .i64 c.retire, .int .i64 c.patience, .int .i64 c.tags, .int .i64 c.seqs, .int .i64 c.gens, .slice c.sa c.start.length c.sc] 88) = W0 at *
    refine (HW.out _ HCW.out).mono ?_
    rintro e w1 ⟨rfl, hb1⟩
    have HB1 := Lib.hid (HB0.out.trans (hb1.mono HB0.out.size))
    clear hb1
    go_wp2_with fail
    refine (HDO.out _ (HT.out.below HB1.out)).mono ?_
    rintro e w2 ⟨rfl, hb2⟩
    have HB2 := Lib.hid (HB1.out.trans (hb2.mono HB1.out.size))
    clear hb2
    go_upto_region 3 with (fail)
    have sa : (⟨#[32]⟩ ++ zo ++ ⟨#[32]⟩ : ByteArray).size ≤ 23 := by rw [ByteArray.size_append, ByteArray.size_append]; show 1 + zo.size + 1 ≤ 23; omega
    generalize (⟨#[32]⟩ ++ zo ++ ⟨#[32]⟩ : ByteArray) = at_ at *
    have f0 : ¬ 9223372036854775807 < 4 + at_.size := by omega
    have f1 : ¬ 9223372036854775807 < 4 + at_.size + rs.size := by omega
    go_wp2_with fail
    refine (HRR.out _).mono ?_
    rintro e w3 ⟨rfl, hb3⟩
    have HB3 := Lib.hid (HB2.out.trans (hb3.mono HB2.out.size))
    clear hb3
    go_wp2_with fail
    refine (HRS.out _ (HT.out.below HB3.out)).mono ?_
    rintro e w4 ⟨rfl, hb4⟩
    have HB4 := Lib.hid (HB3.out.trans (hb4.mono HB3.out.size))
    clear hb4
    go_wp2
    go_ret
    exact HPO.out _ _ (by rw [HV8.out]) HB4.out
  · clear b1 b2 b3 b4 b5 b6 HV0 HV1 HV2 HV3 HV4 HV5 HV6 HV7 HV8 HV10
    go_enter Tryz.func40, Tryz.ntmps40
    go_wp2_with fail
    generalize w.alloc (.cells #[.int .i64 c.kind, .int .i64 c.threads, .int .i64 c.chans, .int .i64 c.cap, .int .i64 c.nodes, .int .i64 c.retire, .int .i64 c.patience, .int .i64 c.tags, .int .i64 c.seqs, .int .i64 c.gens, .slice c.sa c.start.length c.sc] 88) = W0 at *
    refine (HW.out _ HCW.out).mono ?_
    rintro e w1 ⟨rfl, hb1⟩
    have HB1 := Lib.hid (HB0.out.trans (hb1.mono HB0.out.size))
    clear hb1
    go_wp2_with fail
    refine (HDO.out _ (HT.out.below HB1.out)).mono ?_
    rintro e w2 ⟨rfl, hb2⟩
    have HB2 := Lib.hid (HB1.out.trans (hb2.mono HB1.out.size))
    clear hb2
    go_upto_region 3 with (fail)
    have sa : (⟨#[32]⟩ ++ zo ++ ⟨#[32]⟩ : ByteArray).size ≤ 23 := by rw [ByteArray.size_append, ByteArray.size_append]; show 1 + zo.size + 1 ≤ 23; omega
    generalize (⟨#[32]⟩ ++ zo ++ ⟨#[32]⟩ : ByteArray) = at_ at *
    have f0 : ¬ 9223372036854775807 < 3 + at_.size := by omega
    have f1 : ¬ 9223372036854775807 < 3 + at_.size + du.size := by omega
    go_wp2_with fail
    refine (HFU.out _ (HT.out.below HB2.out)).mono ?_
    rintro e w3 ⟨rfl, hb3⟩
    have HB3 := Lib.hid (HB2.out.trans (hb3.mono HB2.out.size))
    clear hb3
    go_wp2
    go_ret
    exact HPO.out _ _ (by rw [HV9.out]) HB3.out
  · clear b1 b2 b3 b4 b5 b6 HV0 HV1 HV2 HV3 HV4 HV5 HV6 HV7 HV8 HV9
    go_enter Tryz.func40, Tryz.ntmps40
    go_wp2_with fail
    generalize w.alloc (.cells #[.int .i64 c.kind, .int .i64 c.threads, .int .i64 c.chans, .int .i64 c.cap, .int .i64 c.nodes, .int .i64 c.retire, .int .i64 c.patience, .int .i64 c.tags, .int .i64 c.seqs, .int .i64 c.gens, .slice c.sa c.start.length c.sc] 88) = W0 at *
    refine (HW.out _ HCW.out).mono ?_
    rintro e w1 ⟨rfl, hb1⟩
    have HB1 := Lib.hid (HB0.out.trans (hb1.mono HB0.out.size))
    clear hb1
    go_wp2_with fail
    refine (HDO.out _ (HT.out.below HB1.out)).mono ?_
    rintro e w2 ⟨rfl, hb2⟩
    have HB2 := Lib.hid (HB1.out.trans (hb2.mono HB1.out.size))
    clear hb2
    go_upto_region 3 with (fail)
    have sa : (⟨#[32]⟩ ++ zo ++ ⟨#[32]⟩ : ByteArray).size ≤ 23 := by rw [ByteArray.size_append, ByteArray.size_append]; show 1 + zo.size + 1 ≤ 23; omega
    generalize (⟨#[32]⟩ ++ zo ++ ⟨#[32]⟩ : ByteArray) = at_ at *
    have f0 : ¬ 9223372036854775807 < 4 + at_.size := by omega
    have f1 : ¬ 9223372036854775807 < 4 + at_.size + zp.size := by omega
    have f2 : ¬ 9223372036854775807 < 4 + at_.size + zp.size + 1 := by omega
    have f3 : ¬ 9223372036854775807 < 4 + at_.size + zp.size + 1 + hx.size := by omega
    go_wp2_with fail
    refine (HDP.out _ (HT.out.below HB2.out)).mono ?_
    rintro e w3 ⟨rfl, hb3⟩
    have HB3 := Lib.hid (HB2.out.trans (hb3.mono HB2.out.size))
    clear hb3
    go_wp2_with fail
    refine (HHX.out _ (HZ.out.below HB3.out)).mono ?_
    rintro e w4 ⟨rfl, hb4⟩
    have HB4 := Lib.hid (HB3.out.trans (hb4.mono HB3.out.size))
    clear hb4
    go_wp2
    go_ret
    exact HPO.out _ _ (by rw [HV10.out]) HB4.out

end Go.Proofs.YtalkllfgedacoaaGreatDoor

namespace Go.Proofs.YtalkllfgedacoaaGreatDoor
open Go.RowKit Go.Sort

end Go.Proofs.YtalkllfgedacoaaGreatDoor
