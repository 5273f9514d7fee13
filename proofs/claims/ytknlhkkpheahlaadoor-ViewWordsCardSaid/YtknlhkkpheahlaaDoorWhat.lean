/- What a word is: layout.What and the document's, walked. -/
import Derived.Test.YtknlhkkpheahlaaDoorLay1
import Derived.BigQuiet
import Derived.Deep.LoopGhost
import Derived.OwnWalk
namespace Go.Proofs.YtknlhkkpheahlaaDoor
open Go.RowKit Go.Sort

def whatS (c : Cfg) (a : Int) : Int × Int × Int :=
  if a < 0 ∨ totalS c ≤ a then (0, 0, 0)
  else if a < 3 then (1 + a, 0, 0)
  else if a < 3 + c.threads then (4, a - 3, 0)
  else if a < 3 + c.threads * 6 then (5, (a - (3 + c.threads)) / 5, (a - (3 + c.threads)) % 5)
  else if a < 3 + c.threads * 7 then (6, a - (3 + c.threads * 6), 0)
  else if a < 3 + c.threads * 8 then (7, a - (3 + c.threads * 7), 0)
  else if a < 3 + c.threads * 9 then (8, a - (3 + c.threads * 8), 0)
  else if (a - (3 + c.threads * 9)) % (1 + sizeS c) = 0 then (9, (a - (3 + c.threads * 9)) / (1 + sizeS c), 0)
  else (10, (a - (3 + c.threads * 9)) / (1 + sizeS c), (a - (3 + c.threads * 9)) % (1 + sizeS c) - 1)

abbrev whatV (p : Int × Int × Int) : Value := .tuple #[.int .i64 p.1, .int .i64 p.2.1, .int .i64 p.2.2]

theorem what_none {c : Cfg} {a : Int} (h : a < 0 ∨ totalS c ≤ a) : whatS c a = (0, 0, 0) := by unfold whatS; rw [if_pos h]
theorem what_once {c : Cfg} {a : Int} (h0 : 0 ≤ a) (ht : a < totalS c) (h3 : a < 3) : whatS c a = (1 + a, 0, 0) := by
  unfold whatS; rw [if_neg (by omega), if_pos h3]

theorem ret3 {a b c a' b' c' : Int} (h1 : a = a') (h2 : b = b') (h3 : c = c') : (Ending.returned (.tuple #[.int .i64 a, .int .i64 b, .int .i64 c]) : Ending) = .returned (.tuple #[.int .i64 a', .int .i64 b', .int .i64 c']) := by rw [h1, h2, h3]

theorem chk_of_total {c : Cfg} {a : Int} (h0 : 0 ≤ a) (ht : a < totalS c) : chkB c = true := by
  cases h : chkB c with
  | true => rfl
  | false => unfold totalS at ht; rw [h, if_neg (by decide)] at ht; omega

def loB (th : Int) : Nat → Int
  | 0 => 3
  | 1 => 3 + th
  | 2 => 3 + th * 6
  | 3 => 3 + th * 7
  | 4 => 3 + th * 8
  | _ => 3 + th * 9

set_option maxHeartbeats 4000000 in
set_option maxRecDepth 100000 in
theorem What_any (c : Cfg) (a : Int) (w : World) (hcf : CfgIn w c) :
    Calls Tryd.prog 43 #[cfgV c, .int .i64 a] w fun e w' => e = .returned (whatV (whatS c a)) ∧ Below w.heap.size w w' := by
  have HC := Lib.hid hcf
  have HB := Lib.hid ((Below.refl w.heap.size w).alloc (Nat.le_refl _) (.cells #[.int .i64 c.kind, .int .i64 c.threads, .int .i64 c.chans, .int .i64 c.cap, .int .i64 c.nodes, .int .i64 c.retire, .int .i64 c.patience, .int .i64 c.tags, .int .i64 c.seqs, .int .i64 c.gens, .slice c.sa c.start.length c.sc] 45))
  have HCW := Lib.hid (HC.out.below HB.out)
  have HX := Lib.hid (BoxC.new w c)
  have HT := Lib.hid (fun W h => Total_any c W h)
  clear hcf
  unfold cfgV
  unfold cfgV at HT
  by_cases h0 : a < 0
  · have HW := Lib.hid (what_none (c := c) (Or.inl h0))
    go_enter Tryd.func43, Tryd.ntmps43
    go_wp2_with fail
    go_ret3
    rw [HW.out]
    exact ⟨rfl, HB.out⟩
  have hx := HX.out.all
  obtain ⟨x0, x1, x2, x3, x4, x5, x6, x7, x8, x9, x10⟩ := hx
  have h0' : 0 ≤ a := by omega
  by_cases ht : totalS c ≤ a
  · have HW := Lib.hid (what_none (c := c) (Or.inr ht))
    go_enter Tryd.func43, Tryd.ntmps43
    go_wp2_with fail
    refine (HT.out _ HCW.out).mono ?_
    rintro e w1 ⟨rfl, hb1⟩
    go_wp2
    go_ret3
    rw [HW.out]
    exact ⟨rfl, HB.out.trans (hb1.mono HB.out.size)⟩
  have ht' : a < totalS c := by omega
  have hk := chk_of_total h0' ht'
  by_cases h3 : a < 3
  · have HW := Lib.hid (what_once (c := c) h0' ht' h3)
    go_enter Tryd.func43, Tryd.ntmps43
    go_wp2_with fail
    refine (HT.out _ HCW.out).mono ?_
    rintro e w1 ⟨rfl, hb1⟩
    go_wp2
    go_ret3
    rw [HW.out]
    exact ⟨rfl, HB.out.trans (hb1.mono HB.out.size)⟩
  obtain ⟨g1, g2, g3, g4, g5, g6, g7, g8, g9, g10, g11⟩ := chk_kind hk
  obtain ⟨s1, s2⟩ := size_b hk
  have htb := total_b hk
  have ha : a < 4600000 := by omega
  have HWS : RowKit.Hid (whatS c a = if a < 3 + c.threads then (4, a - 3, 0)
      else if a < 3 + c.threads * 6 then (5, (a - (3 + c.threads)) / 5, (a - (3 + c.threads)) % 5)
      else if a < 3 + c.threads * 7 then (6, a - (3 + c.threads * 6), 0)
      else if a < 3 + c.threads * 8 then (7, a - (3 + c.threads * 7), 0)
      else if a < 3 + c.threads * 9 then (8, a - (3 + c.threads * 8), 0)
      else if (a - (3 + c.threads * 9)) % (1 + sizeS c) = 0 then (9, (a - (3 + c.threads * 9)) / (1 + sizeS c), 0)
      else (10, (a - (3 + c.threads * 9)) / (1 + sizeS c), (a - (3 + c.threads * 9)) % (1 + sizeS c) - 1)) := Lib.hid (by unfold whatS; rw [if_neg (by omega), if_neg h3])
  clear htb g3 g4 g5 g6 g7 g8 g9 g10 g11 h0 ht hk
  have HH := Lib.hid (fun W => first_any c 9 W g1 g2 ⟨by decide, by decide⟩)
  have HF4 := Lib.hid (fun W => first_any c 4 W g1 g2 ⟨by decide, by decide⟩)
  have HF5 := Lib.hid (fun W => first_any c 5 W g1 g2 ⟨by decide, by decide⟩)
  have HF6 := Lib.hid (fun W => first_any c 6 W g1 g2 ⟨by decide, by decide⟩)
  have HF7 := Lib.hid (fun W => first_any c 7 W g1 g2 ⟨by decide, by decide⟩)
  have HF8 := Lib.hid (fun W => first_any c 8 W g1 g2 ⟨by decide, by decide⟩)
  have HSZ := Lib.hid (fun W h => Size_any c W h)
  rw [show firstS c.threads 9 = 3 + c.threads * 9 by simp [firstS]] at HH
  rw [show firstS c.threads 4 = 3 by simp [firstS]] at HF4
  rw [show firstS c.threads 5 = 3 + c.threads by simp [firstS]] at HF5
  rw [show firstS c.threads 6 = 3 + c.threads * 6 by simp [firstS]] at HF6
  rw [show firstS c.threads 7 = 3 + c.threads * 7 by simp [firstS]] at HF7
  rw [show firstS c.threads 8 = 3 + c.threads * 8 by simp [firstS]] at HF8
  unfold cfgV at HH HF4 HF5 HF6 HF7 HF8 HSZ
  generalize sizeS c = sz at *
  generalize hth : c.threads = th at *
  have HTH := Lib.hid hth
  clear hth
  go_enter Tryd.func43, Tryd.ntmps43
  go_wp2_with fail
  generalize (w.alloc (.cells #[.int .i64 c.kind, .int .i64 th, .int .i64 c.chans, .int .i64 c.cap, .int .i64 c.nodes, .int .i64 c.retire, .int .i64 c.patience, .int .i64 c.tags, .int .i64 c.seqs, .int .i64 c.gens, .slice c.sa c.start.length c.sc] 45)) = W0 at *
  clear x0 x1 x2 x3 x4 x5 x6 x7 x8 x9 x10
  refine (HT.out _ HCW.out).mono ?_
  rintro e w1 ⟨rfl, hb1⟩
  have HB1 := Lib.hid hb1
  clear hb1
  go_wp2_with fail
  have i0 : ∀ W, (Instr.index 123 (.agg #[.int .i64 4, .int .i64 5, .int .i64 6, .int .i64 7, .int .i64 8]) (.int .i64 0)).run Tryd.prog W = .ok (.int .i64 4) W := fun _ => by kernel_rfl
  have i1 : ∀ W, (Instr.index 123 (.agg #[.int .i64 4, .int .i64 5, .int .i64 6, .int .i64 7, .int .i64 8]) (.int .i64 1)).run Tryd.prog W = .ok (.int .i64 5) W := fun _ => by kernel_rfl
  have i2 : ∀ W, (Instr.index 123 (.agg #[.int .i64 4, .int .i64 5, .int .i64 6, .int .i64 7, .int .i64 8]) (.int .i64 2)).run Tryd.prog W = .ok (.int .i64 6) W := fun _ => by kernel_rfl
  have i3 : ∀ W, (Instr.index 123 (.agg #[.int .i64 4, .int .i64 5, .int .i64 6, .int .i64 7, .int .i64 8]) (.int .i64 3)).run Tryd.prog W = .ok (.int .i64 7) W := fun _ => by kernel_rfl
  have i4 : ∀ W, (Instr.index 123 (.agg #[.int .i64 4, .int .i64 5, .int .i64 6, .int .i64 7, .int .i64 8]) (.int .i64 4)).run Tryd.prog W = .ok (.int .i64 8) W := fun _ => by kernel_rfl
  go_loopg [26] 6 (fun g i wr => ∃ k : Nat, k ≤ 5 ∧ g = 6 - k ∧ i = .int .i64 k ∧ loB th k ≤ a ∧ Below W0.heap.size W0 wr)
  case atStart => exact ⟨0, by omega, rfl, rfl, (by show 3 ≤ a; omega), HB1.out⟩
  case round =>
    obtain ⟨k, hk5, hg, rfl, hlo, hb⟩ := hrel
    have HBW := Lib.hid hb
    have HG := Lib.hid hg
    clear hb hg HB1
    obtain ⟨x0, x1, x2, x3, x4, x5, x6, x7, x8, x9, x10⟩ := (HX.out.below HBW.out).all
    rw [HTH.out] at x1
    have hxl := (HX.out.below HBW.out).1
    rcases (show k = 0 ∨ k = 1 ∨ k = 2 ∨ k = 3 ∨ k = 4 ∨ k = 5 by omega) with rfl | rfl | rfl | rfl | rfl | rfl
    · have hlo' : 3 ≤ a := hlo
      have HLO := Lib.hid hlo'
      clear hlo
      have q0 : 0 ≤ a - (3) := by omega
      have q9 : ¬ a - (3) < 0 := by omega
      by_cases hhi : a < 3 + th
      · have HHI := Lib.hid hhi
        have q1 : a - (3) < 1 * th := by omega
        have HV := Lib.hid (show whatS c a = (4, a - 3, 0) by rw [HWS.out]; rw [if_pos hhi])
        clear hhi hlo'
        go_wp2_with (go_at_call 78; refine (HF4.out _).mono ?_; rintro e w2 ⟨rfl, hb2⟩; have HB2 := Lib.hid hb2; have y1 := (hb2.cell (p := ⟨w.heap.size, 1, none⟩) hxl).trans x1; clear hb2 x0 x1 x2 x3 x4 x5 x6 x7 x8 x9 x10)
        go_quiet (fail)
        go_wp2
        go_ret3
        refine ⟨?_, Below.drewN' (HB.out.trans ((HBW.out.trans (HB2.out.mono HBW.out.size)).mono HB.out.size)) _⟩
        rw [HV.out]
        rfl
      · have HHI := Lib.hid hhi
        have q1 : ¬ a - (3) < 1 * th := by omega
        clear hhi hlo'
        go_wp2_with (go_at_call 78; refine (HF4.out _).mono ?_; rintro e w2 ⟨rfl, hb2⟩; have HB2 := Lib.hid hb2; have y1 := (hb2.cell (p := ⟨w.heap.size, 1, none⟩) hxl).trans x1; clear hb2 x0 x1 x2 x3 x4 x5 x6 x7 x8 x9 x10)
        go_roundg 5
        case measure => rw [HG.out]; decide
        case rel => exact ⟨1, by omega, rfl, by go_num, (by show 3 + th ≤ a; have := HHI.out; omega), HBW.out.trans (HB2.out.mono HBW.out.size)⟩
    · have hlo' : 3 + th ≤ a := hlo
      have HLO := Lib.hid hlo'
      clear hlo
      have q0 : 0 ≤ a - (3 + th) := by omega
      have q9 : ¬ a - (3 + th) < 0 := by omega
      by_cases hhi : a < 3 + th * 6
      · have HHI := Lib.hid hhi
        have q1 : a - (3 + th) < 5 * th := by omega
        have HV := Lib.hid (show whatS c a = (5, (a - (3 + th)) / 5, (a - (3 + th)) % 5) by rw [HWS.out]; rw [if_neg (by omega)]; rw [if_pos hhi])
        clear hhi hlo'
        go_wp2_with (go_at_call 78; refine (HF5.out _).mono ?_; rintro e w2 ⟨rfl, hb2⟩; have HB2 := Lib.hid hb2; have y1 := (hb2.cell (p := ⟨w.heap.size, 1, none⟩) hxl).trans x1; clear hb2 x0 x1 x2 x3 x4 x5 x6 x7 x8 x9 x10)
        go_quiet (fail)
        go_wp2
        go_ret3
        refine ⟨?_, Below.drewN' (HB.out.trans ((HBW.out.trans (HB2.out.mono HBW.out.size)).mono HB.out.size)) _⟩
        rw [HV.out]
        rfl
      · have HHI := Lib.hid hhi
        have q1 : ¬ a - (3 + th) < 5 * th := by omega
        clear hhi hlo'
        go_wp2_with (go_at_call 78; refine (HF5.out _).mono ?_; rintro e w2 ⟨rfl, hb2⟩; have HB2 := Lib.hid hb2; have y1 := (hb2.cell (p := ⟨w.heap.size, 1, none⟩) hxl).trans x1; clear hb2 x0 x1 x2 x3 x4 x5 x6 x7 x8 x9 x10)
        go_roundg 4
        case measure => rw [HG.out]; decide
        case rel => exact ⟨2, by omega, rfl, by go_num, (by show 3 + th * 6 ≤ a; have := HHI.out; omega), HBW.out.trans (HB2.out.mono HBW.out.size)⟩
    · have hlo' : 3 + th * 6 ≤ a := hlo
      have HLO := Lib.hid hlo'
      clear hlo
      have q0 : 0 ≤ a - (3 + th * 6) := by omega
      have q9 : ¬ a - (3 + th * 6) < 0 := by omega
      by_cases hhi : a < 3 + th * 7
      · have HHI := Lib.hid hhi
        have q1 : a - (3 + th * 6) < 1 * th := by omega
        have HV := Lib.hid (show whatS c a = (6, a - (3 + th * 6), 0) by rw [HWS.out]; rw [if_neg (by omega)]; rw [if_neg (by omega)]; rw [if_pos hhi])
        clear hhi hlo'
        go_wp2_with (go_at_call 78; refine (HF6.out _).mono ?_; rintro e w2 ⟨rfl, hb2⟩; have HB2 := Lib.hid hb2; have y1 := (hb2.cell (p := ⟨w.heap.size, 1, none⟩) hxl).trans x1; clear hb2 x0 x1 x2 x3 x4 x5 x6 x7 x8 x9 x10)
        go_quiet (fail)
        go_wp2
        go_ret3
        refine ⟨?_, Below.drewN' (HB.out.trans ((HBW.out.trans (HB2.out.mono HBW.out.size)).mono HB.out.size)) _⟩
        rw [HV.out]
        rfl
      · have HHI := Lib.hid hhi
        have q1 : ¬ a - (3 + th * 6) < 1 * th := by omega
        clear hhi hlo'
        go_wp2_with (go_at_call 78; refine (HF6.out _).mono ?_; rintro e w2 ⟨rfl, hb2⟩; have HB2 := Lib.hid hb2; have y1 := (hb2.cell (p := ⟨w.heap.size, 1, none⟩) hxl).trans x1; clear hb2 x0 x1 x2 x3 x4 x5 x6 x7 x8 x9 x10)
        go_roundg 3
        case measure => rw [HG.out]; decide
        case rel => exact ⟨3, by omega, rfl, by go_num, (by show 3 + th * 7 ≤ a; have := HHI.out; omega), HBW.out.trans (HB2.out.mono HBW.out.size)⟩
    · have hlo' : 3 + th * 7 ≤ a := hlo
      have HLO := Lib.hid hlo'
      clear hlo
      have q0 : 0 ≤ a - (3 + th * 7) := by omega
      have q9 : ¬ a - (3 + th * 7) < 0 := by omega
      by_cases hhi : a < 3 + th * 8
      · have HHI := Lib.hid hhi
        have q1 : a - (3 + th * 7) < 1 * th := by omega
        have HV := Lib.hid (show whatS c a = (7, a - (3 + th * 7), 0) by rw [HWS.out]; rw [if_neg (by omega)]; rw [if_neg (by omega)]; rw [if_neg (by omega)]; rw [if_pos hhi])
        clear hhi hlo'
        go_wp2_with (go_at_call 78; refine (HF7.out _).mono ?_; rintro e w2 ⟨rfl, hb2⟩; have HB2 := Lib.hid hb2; have y1 := (hb2.cell (p := ⟨w.heap.size, 1, none⟩) hxl).trans x1; clear hb2 x0 x1 x2 x3 x4 x5 x6 x7 x8 x9 x10)
        go_quiet (fail)
        go_wp2
        go_ret3
        refine ⟨?_, Below.drewN' (HB.out.trans ((HBW.out.trans (HB2.out.mono HBW.out.size)).mono HB.out.size)) _⟩
        rw [HV.out]
        rfl
      · have HHI := Lib.hid hhi
        have q1 : ¬ a - (3 + th * 7) < 1 * th := by omega
        clear hhi hlo'
        go_wp2_with (go_at_call 78; refine (HF7.out _).mono ?_; rintro e w2 ⟨rfl, hb2⟩; have HB2 := Lib.hid hb2; have y1 := (hb2.cell (p := ⟨w.heap.size, 1, none⟩) hxl).trans x1; clear hb2 x0 x1 x2 x3 x4 x5 x6 x7 x8 x9 x10)
        go_roundg 2
        case measure => rw [HG.out]; decide
        case rel => exact ⟨4, by omega, rfl, by go_num, (by show 3 + th * 8 ≤ a; have := HHI.out; omega), HBW.out.trans (HB2.out.mono HBW.out.size)⟩
    · have hlo' : 3 + th * 8 ≤ a := hlo
      have HLO := Lib.hid hlo'
      clear hlo
      have q0 : 0 ≤ a - (3 + th * 8) := by omega
      have q9 : ¬ a - (3 + th * 8) < 0 := by omega
      by_cases hhi : a < 3 + th * 9
      · have HHI := Lib.hid hhi
        have q1 : a - (3 + th * 8) < 1 * th := by omega
        have HV := Lib.hid (show whatS c a = (8, a - (3 + th * 8), 0) by rw [HWS.out]; rw [if_neg (by omega)]; rw [if_neg (by omega)]; rw [if_neg (by omega)]; rw [if_neg (by omega)]; rw [if_pos hhi])
        clear hhi hlo'
        go_wp2_with (go_at_call 78; refine (HF8.out _).mono ?_; rintro e w2 ⟨rfl, hb2⟩; have HB2 := Lib.hid hb2; have y1 := (hb2.cell (p := ⟨w.heap.size, 1, none⟩) hxl).trans x1; clear hb2 x0 x1 x2 x3 x4 x5 x6 x7 x8 x9 x10)
        go_quiet (fail)
        go_wp2
        go_ret3
        refine ⟨?_, Below.drewN' (HB.out.trans ((HBW.out.trans (HB2.out.mono HBW.out.size)).mono HB.out.size)) _⟩
        rw [HV.out]
        rfl
      · have HHI := Lib.hid hhi
        have q1 : ¬ a - (3 + th * 8) < 1 * th := by omega
        clear hhi hlo'
        go_wp2_with (go_at_call 78; refine (HF8.out _).mono ?_; rintro e w2 ⟨rfl, hb2⟩; have HB2 := Lib.hid hb2; have y1 := (hb2.cell (p := ⟨w.heap.size, 1, none⟩) hxl).trans x1; clear hb2 x0 x1 x2 x3 x4 x5 x6 x7 x8 x9 x10)
        go_roundg 1
        case measure => rw [HG.out]; decide
        case rel => exact ⟨5, by omega, rfl, by go_num, (by show 3 + th * 9 ≤ a; have := HHI.out; omega), HBW.out.trans (HB2.out.mono HBW.out.size)⟩
    · have hlo' : 3 + th * 9 ≤ a := hlo
      have HLO := Lib.hid hlo'
      clear hlo
      have q0 : 0 ≤ a - (3 + th * 9) := by omega
      have q1 : 0 < 1 + sz := by omega
      generalize hu : a - (3 + th * 9) = u at *
      have HU := Lib.hid hu
      have q2 : u ≤ 4600000 := by omega
      have q3 : 0 ≤ u % (1 + sz) := Int.emod_nonneg _ (by omega)
      have q4 : u % (1 + sz) < 1 + sz := Int.emod_lt_of_pos _ q1
      by_cases hr : u % (1 + sz) = 0
      · have HV := Lib.hid (show whatS c a = (9, u / (1 + sz), 0) by rw [HWS.out]; rw [if_neg (by omega)]; rw [if_neg (by omega)]; rw [if_neg (by omega)]; rw [if_neg (by omega)]; rw [if_neg (by omega)]; rw [if_pos hr])
        have b1 : (u % (1 + sz) == 0) = true := by simp [hr]
        clear hr hlo'
        go_wp2_with (first
          | (go_at_call 79; refine (HSZ.out _ (HCW.out.below HBW.out)).mono ?_; rintro e w2 ⟨rfl, hb2⟩; have HB2 := Lib.hid (HBW.out.trans (hb2.mono HBW.out.size)); obtain ⟨y0, y1, y2, y3, y4, y5, y6, y7, y8, y9, y10⟩ := (HX.out.below HB2.out).all; rw [HTH.out] at y1; clear hb2 x0 x1 x2 x3 x4 x5 x6 x7 x8 x9 x10)
          | (go_at_call 78; refine (HH.out _).mono ?_; rintro e w3 ⟨rfl, hb3⟩; have HB3 := Lib.hid (HB2.out.trans (hb3.mono HB2.out.size)); clear hb3))
        go_quiet (fail)
        go_wp2
        go_ret3
        refine ⟨?_, Below.drewN' (HB.out.trans (HB3.out.mono HB.out.size)) _⟩
        rw [HV.out]
        rfl
      · have HV := Lib.hid (show whatS c a = (10, u / (1 + sz), u % (1 + sz) - 1) by rw [HWS.out]; rw [if_neg (by omega)]; rw [if_neg (by omega)]; rw [if_neg (by omega)]; rw [if_neg (by omega)]; rw [if_neg (by omega)]; rw [if_neg hr])
        have b1 : (u % (1 + sz) == 0) = false := by simp [hr]
        clear hr hlo'
        go_wp2_with (first
          | (go_at_call 79; refine (HSZ.out _ (HCW.out.below HBW.out)).mono ?_; rintro e w2 ⟨rfl, hb2⟩; have HB2 := Lib.hid (HBW.out.trans (hb2.mono HBW.out.size)); obtain ⟨y0, y1, y2, y3, y4, y5, y6, y7, y8, y9, y10⟩ := (HX.out.below HB2.out).all; rw [HTH.out] at y1; clear hb2 x0 x1 x2 x3 x4 x5 x6 x7 x8 x9 x10)
          | (go_at_call 78; refine (HH.out _).mono ?_; rintro e w3 ⟨rfl, hb3⟩; have HB3 := Lib.hid (HB2.out.trans (hb3.mono HB2.out.size)); clear hb3))
        go_quiet (fail)
        go_wp2
        go_ret3
        refine ⟨?_, Below.drewN' (HB.out.trans (HB3.out.mono HB.out.size)) _⟩
        rw [HV.out]
        rfl

end Go.Proofs.YtknlhkkpheahlaaDoor
