/- The law ShapeBack, walked: it answers true. -/
import Derived.Test.YtknlhkkpheahlaaDoorAwk40
namespace Go.Proofs.YtknlhkkpheahlaaDoor
open Go.RowKit Go.Sort

set_option maxHeartbeats 8000000 in
set_option maxRecDepth 100000 in
theorem LawShp_any (c : Cfg) (s : ByteArray) (w : World) (hcf : CfgIn w c) (hs : s.size ≤ 1048576) (ht : TabT w) (he : ErrT w) (hm : MLT w) :
    Calls Tryd.prog 5 #[cfgV c, .string s] w fun e w' => e = .returned (.bool true) ∧ Below w.heap.size w w' := by
  have HCF := Lib.hid hcf
  have HT := Lib.hid ht
  have HE := Lib.hid he
  have HM := Lib.hid hm
  have hek : ¬ errS s = 0 := by
    have := errS_ne s
    omega
  have HRD : RowKit.Hid (readS s = none ∨ ∃ d : Cfg, readS s = some d.norm ∧ chkB d = true) := Lib.hid (by
    cases h : readS s with
    | none => exact .inl rfl
    | some d => exact .inr ⟨d, by rw [readS_norm h], readS_chk h⟩)
  clear hcf ht he hm
  generalize hes : errS s = ek at *
  have HRE := Lib.hid hes
  clear hes
  by_cases hc : chkB c = true
  case pos =>
    have HC := Lib.hid hc
    have HTV : RowKit.Hid (shpTB c = shpT c) := Lib.hid (if_pos hc)
    have HTZ := Lib.hid (text_words hc).2
    have HTR := Lib.hid (read_text hc)
    have HTX := Lib.hid (fun W h1 h2 => Text_shp c W h1 h2)
    rw [HTV.out] at HTX
    clear hc HTV
    generalize shpT c = tx at *
    have HR2 := Lib.hid (fun W h1 h2 h3 => Read_yes HTR.out (by have := HTZ.out; omega) W h1 h2 h3)
    go_enter Tryd.func5, Tryd.ntmps5
    go_upto_region 2 with (go_at_call 23; refine (rCheck_ok c _ (HCF.out.alloc _) HC.out).mono ?_; rintro e w1 ⟨rfl, hb1⟩)
    have HB1 := Lib.hid (((Below.refl w.heap.size w).alloc (Nat.le_refl _) _).trans (hb1.mono (by simp)))
    have HX1 := Lib.hid ((Blk.new w 45 (cfgCells c)).below hb1 (by simp))
    clear hb1
    generalize hbb : w.heap.size = b at *
    have HBB := Lib.hid hbb
    clear hbb
    have x0 := HX1.out.cell (i := 0) rfl
    have x1 := HX1.out.cell (i := 1) rfl
    have x2 := HX1.out.cell (i := 2) rfl
    have x3 := HX1.out.cell (i := 3) rfl
    have x4 := HX1.out.cell (i := 4) rfl
    have x5 := HX1.out.cell (i := 5) rfl
    have x6 := HX1.out.cell (i := 6) rfl
    have x7 := HX1.out.cell (i := 7) rfl
    have x8 := HX1.out.cell (i := 8) rfl
    have x9 := HX1.out.cell (i := 9) rfl
    have x10 := HX1.out.cell (i := 10) rfl
    have hg1 := HX1.out.lt
    go_upto_region 3 with (first
      | (go_at_call 25; refine (HTX.out _ (HCF.out.below (HBB.out ▸ HB1.out)) (HT.out.below (HBB.out ▸ HB1.out))).mono ?_; rintro e w2 ⟨rfl, hb2⟩; have HB2 := Lib.hid (HB1.out.trans (hb2.mono (HBB.out ▸ HB1.out.size))); have HX2 := Lib.hid (HX1.out.below hb2 HX1.out.lt); clear hb2)
      | (go_at_call 24; refine (HR2.out _ (HT.out.below (HBB.out ▸ HB2.out)) (HE.out.below (HBB.out ▸ HB2.out)) (HM.out.below (HBB.out ▸ HB2.out))).mono ?_; rintro e w3 ⟨sa, sc, rfl, hA3, hdl, hb3⟩; have HB3 := Lib.hid (HB2.out.trans (hb3.mono (HBB.out ▸ HB2.out.size))); have HX3 := Lib.hid (HX2.out.below hb3 HX2.out.lt); have HA3 := Lib.hid hA3; have HDL := Lib.hid hdl; clear hb3 hA3 hdl))
    have HX4 := Lib.hid (Blk.new w3 45 (cfgCells { c with sa := sa, sc := sc }))
    have HB4 := Lib.hid (HB3.out.alloc (HBB.out ▸ HB3.out.size) (.cells (cfgCells { c with sa := sa, sc := sc }).toArray 45))
    have HA4 := Lib.hid (HA3.out.alloc (.cells (cfgCells { c with sa := sa, sc := sc }).toArray 45))
    have HY4 := Lib.hid (HX3.out.alloc (.cells (cfgCells { c with sa := sa, sc := sc }).toArray 45))
    simp only [cfgCells] at HX4 HB4 HA4 HY4
    clear x0 x1 x2 x3 x4 x5 x6 x7 x8 x9 x10 hg1
    generalize (w3.alloc (.cells [Value.int .i64 c.kind, Value.int .i64 c.threads, Value.int .i64 c.chans, Value.int .i64 c.cap, Value.int .i64 c.nodes, Value.int .i64 c.retire, Value.int .i64 c.patience, Value.int .i64 c.tags, Value.int .i64 c.seqs, Value.int .i64 c.gens, .slice sa c.start.length sc].toArray 45)) = W4 at *
    generalize w3.heap.size = g4 at *
    have x0 := HY4.out.cell (i := 0) rfl
    have x1 := HY4.out.cell (i := 1) rfl
    have x2 := HY4.out.cell (i := 2) rfl
    have x3 := HY4.out.cell (i := 3) rfl
    have x4 := HY4.out.cell (i := 4) rfl
    have x5 := HY4.out.cell (i := 5) rfl
    have x6 := HY4.out.cell (i := 6) rfl
    have x7 := HY4.out.cell (i := 7) rfl
    have x8 := HY4.out.cell (i := 8) rfl
    have x9 := HY4.out.cell (i := 9) rfl
    have x10 := HY4.out.cell (i := 10) rfl
    have y0 := HX4.out.cell (i := 0) rfl
    have y1 := HX4.out.cell (i := 1) rfl
    have y2 := HX4.out.cell (i := 2) rfl
    have y3 := HX4.out.cell (i := 3) rfl
    have y4 := HX4.out.cell (i := 4) rfl
    have y5 := HX4.out.cell (i := 5) rfl
    have y6 := HX4.out.cell (i := 6) rfl
    have y7 := HX4.out.cell (i := 7) rfl
    have y8 := HX4.out.cell (i := 8) rfl
    have y9 := HX4.out.cell (i := 9) rfl
    have y10 := HX4.out.cell (i := 10) rfl
    have hg1 := HY4.out.lt
    have hg4 := HX4.out.lt
    have HSY := Lib.hid (fun W h1 h2 => Shape_same c sa sc W h1 h2)
    go_upto_region 7 with (go_at_call 26; refine (HSY.out _ (HCF.out.below (HBB.out ▸ HB4.out)) HA4.out).mono ?_; rintro e w4 ⟨rfl, hb4⟩; have HBZ := Lib.hid (HB4.out.trans (hb4.mono (HBB.out ▸ HB4.out.size))); clear hb4)
    have HB := Lib.hid (show Below w.heap.size w w4 from HBB.out ▸ HBZ.out)
    clear x0 x1 x2 x3 x4 x5 x6 x7 x8 x9 x10 hg1 y0 y1 y2 y3 y4 y5 y6 y7 y8 y9 y10 hg4 HX1 HX2 HX3 HX4 HY4 HA3 HA4 HB1 HB2 HB3 HB4 HBZ HSY HR2 HTX HTZ HTR
    rcases HRD.out with hno | ⟨d, hyes⟩
    · have HNO := Lib.hid hno
      clear hno
      go_upto_region 8 with (go_at_call 24; refine (Read_no HNO.out HRE.out hs _ (HT.out.below HB.out) (HE.out.below HB.out) (HM.out.below HB.out)).mono ?_; rintro e w5 ⟨rfl, hb5⟩; have HB5 := Lib.hid (HB.out.trans (hb5.mono HB.out.size)); clear hb5)
      have HX6 := Lib.hid (Blk.new w5 45 (cfgCells (plainC 0)))
      have HB6 := Lib.hid (HB5.out.alloc HB5.out.size (.cells (cfgCells (plainC 0)).toArray 45))
      simp only [cfgCells] at HX6 HB6
      generalize (w5.alloc (.cells [Value.int .i64 (plainC 0).kind, Value.int .i64 (plainC 0).threads, Value.int .i64 (plainC 0).chans, Value.int .i64 (plainC 0).cap, Value.int .i64 (plainC 0).nodes, Value.int .i64 (plainC 0).retire, Value.int .i64 (plainC 0).patience, Value.int .i64 (plainC 0).tags, Value.int .i64 (plainC 0).seqs, Value.int .i64 (plainC 0).gens, .slice (plainC 0).sa (plainC 0).start.length (plainC 0).sc].toArray 45)) = W6 at *
      generalize w5.heap.size = g6 at *
      have x0 := HX6.out.cell (i := 0) rfl
      have x1 := HX6.out.cell (i := 1) rfl
      have x2 := HX6.out.cell (i := 2) rfl
      have x3 := HX6.out.cell (i := 3) rfl
      have x4 := HX6.out.cell (i := 4) rfl
      have x5 := HX6.out.cell (i := 5) rfl
      have x6 := HX6.out.cell (i := 6) rfl
      have x7 := HX6.out.cell (i := 7) rfl
      have x8 := HX6.out.cell (i := 8) rfl
      have x9 := HX6.out.cell (i := 9) rfl
      have x10 := HX6.out.cell (i := 10) rfl
      have hg6 := HX6.out.lt
      have HSZ := Lib.hid (fun W h => Shape_same (plainC 0) none 0 W ⟨own_rd (own_nil _ 0 3 1), Nat.zero_le _⟩ h)
      go_wp2_with (first
        | (go_at_call 26; refine (HSZ.out _ (own_rd (own_nil _ 0 3 1))).mono ?_; rintro e w7 ⟨rfl, hb7⟩; have HB7 := Lib.hid (HB6.out.trans (hb7.mono HB6.out.size)); clear hb7)
        | (go_at_call 27; refine (awake40_any _ (HT.out.below HB7.out) (HE.out.below HB7.out) (HM.out.below HB7.out)).mono ?_; rintro e w8 ⟨rfl, hb8⟩; have HB8 := Lib.hid (HB7.out.trans (hb8.mono HB7.out.size)); clear hb8))
      go_ret
      exact ⟨rfl, HB8.out⟩
    · have HYES := Lib.hid (show readS s = some d.norm from hyes.1)
      have HDC := Lib.hid hyes.2
      clear hyes
      go_upto_region 8 with (go_at_call 24; refine (Read_yes HYES.out hs _ (HT.out.below HB.out) (HE.out.below HB.out) (HM.out.below HB.out)).mono ?_; rintro e w5 ⟨sa, sc, rfl, hA, hdl, hb5⟩; have HB5 := Lib.hid (HB.out.trans (hb5.mono HB.out.size)); have HA5 := Lib.hid hA; have HDL := Lib.hid hdl; clear hb5 hA hdl)
      have HX6 := Lib.hid (Blk.new w5 45 (cfgCells { d with sa := sa, sc := sc }))
      have HB6 := Lib.hid (HB5.out.alloc HB5.out.size (.cells (cfgCells { d with sa := sa, sc := sc }).toArray 45))
      have HA6 := Lib.hid (HA5.out.alloc (.cells (cfgCells { d with sa := sa, sc := sc }).toArray 45))
      simp only [cfgCells] at HX6 HB6 HA6
      generalize (w5.alloc (.cells [Value.int .i64 d.kind, Value.int .i64 d.threads, Value.int .i64 d.chans, Value.int .i64 d.cap, Value.int .i64 d.nodes, Value.int .i64 d.retire, Value.int .i64 d.patience, Value.int .i64 d.tags, Value.int .i64 d.seqs, Value.int .i64 d.gens, .slice sa d.start.length sc].toArray 45)) = W6 at *
      generalize w5.heap.size = g6 at *
      have x0 := HX6.out.cell (i := 0) rfl
      have x1 := HX6.out.cell (i := 1) rfl
      have x2 := HX6.out.cell (i := 2) rfl
      have x3 := HX6.out.cell (i := 3) rfl
      have x4 := HX6.out.cell (i := 4) rfl
      have x5 := HX6.out.cell (i := 5) rfl
      have x6 := HX6.out.cell (i := 6) rfl
      have x7 := HX6.out.cell (i := 7) rfl
      have x8 := HX6.out.cell (i := 8) rfl
      have x9 := HX6.out.cell (i := 9) rfl
      have x10 := HX6.out.cell (i := 10) rfl
      have hg6 := HX6.out.lt
      have HCD : RowKit.Hid (chkB { d with sa := sa, sc := sc } = true) := Lib.hid HDC.out
      have HTV : RowKit.Hid (shpTB { d with sa := sa, sc := sc } = shpT { d with sa := sa, sc := sc }) := Lib.hid (if_pos HCD.out)
      have HTZ := Lib.hid (text_words HCD.out).2
      have HTR := Lib.hid (read_text HCD.out)
      have HTX := Lib.hid (fun W h1 h2 => Text_shp { d with sa := sa, sc := sc } W h1 h2)
      rw [HTV.out] at HTX
      generalize shpT { d with sa := sa, sc := sc } = tx at *
      have HR2 := Lib.hid (fun W h1 h2 h3 => Read_yes HTR.out (by have := HTZ.out; omega) W h1 h2 h3)
      go_upto_region 11 with (first
        | (go_at_call 25; refine (HTX.out _ ⟨HA6.out, HDL.out⟩ (HT.out.below HB6.out)).mono ?_; rintro e w7 ⟨rfl, hb7⟩; have HB7 := Lib.hid (HB6.out.trans (hb7.mono HB6.out.size)); have HX7 := Lib.hid (HX6.out.below hb7 HX6.out.lt); have HA7 := Lib.hid (HA6.out.below hb7); clear hb7)
        | (go_at_call 24; refine (HR2.out _ (HT.out.below HB7.out) (HE.out.below HB7.out) (HM.out.below HB7.out)).mono ?_; rintro e w8 ⟨sa2, sc2, rfl, hA8, _, hb8⟩; have HB8 := Lib.hid (HB7.out.trans (hb8.mono HB7.out.size)); have HX8 := Lib.hid (HX7.out.below hb8 HX7.out.lt); have HA8 := Lib.hid (HA7.out.below hb8); have HZ8 := Lib.hid hA8; clear hb8 hA8))
      have HX9 := Lib.hid (Blk.new w8 45 (cfgCells { d with sa := sa2, sc := sc2 }))
      have HB9 := Lib.hid (HB8.out.alloc HB8.out.size (.cells (cfgCells { d with sa := sa2, sc := sc2 }).toArray 45))
      have HA9 := Lib.hid (HA8.out.alloc (.cells (cfgCells { d with sa := sa2, sc := sc2 }).toArray 45))
      have HZ9 := Lib.hid (HZ8.out.alloc (.cells (cfgCells { d with sa := sa2, sc := sc2 }).toArray 45))
      have HY9 := Lib.hid (HX8.out.alloc (.cells (cfgCells { d with sa := sa2, sc := sc2 }).toArray 45))
      simp only [cfgCells] at HX9 HB9 HA9 HZ9 HY9
      clear x0 x1 x2 x3 x4 x5 x6 x7 x8 x9 x10 hg6
      generalize (w8.alloc (.cells [Value.int .i64 d.kind, Value.int .i64 d.threads, Value.int .i64 d.chans, Value.int .i64 d.cap, Value.int .i64 d.nodes, Value.int .i64 d.retire, Value.int .i64 d.patience, Value.int .i64 d.tags, Value.int .i64 d.seqs, Value.int .i64 d.gens, .slice sa2 d.start.length sc2].toArray 45)) = W9 at *
      generalize w8.heap.size = g9 at *
      have x0 := HY9.out.cell (i := 0) rfl
      have x1 := HY9.out.cell (i := 1) rfl
      have x2 := HY9.out.cell (i := 2) rfl
      have x3 := HY9.out.cell (i := 3) rfl
      have x4 := HY9.out.cell (i := 4) rfl
      have x5 := HY9.out.cell (i := 5) rfl
      have x6 := HY9.out.cell (i := 6) rfl
      have x7 := HY9.out.cell (i := 7) rfl
      have x8 := HY9.out.cell (i := 8) rfl
      have x9 := HY9.out.cell (i := 9) rfl
      have x10 := HY9.out.cell (i := 10) rfl
      have y0 := HX9.out.cell (i := 0) rfl
      have y1 := HX9.out.cell (i := 1) rfl
      have y2 := HX9.out.cell (i := 2) rfl
      have y3 := HX9.out.cell (i := 3) rfl
      have y4 := HX9.out.cell (i := 4) rfl
      have y5 := HX9.out.cell (i := 5) rfl
      have y6 := HX9.out.cell (i := 6) rfl
      have y7 := HX9.out.cell (i := 7) rfl
      have y8 := HX9.out.cell (i := 8) rfl
      have y9 := HX9.out.cell (i := 9) rfl
      have y10 := HX9.out.cell (i := 10) rfl
      have hg6 := HY9.out.lt
      have hg9 := HX9.out.lt
      have HSZ := Lib.hid (fun W h1 h2 => Shape_same { d with sa := sa, sc := sc } sa2 sc2 W ⟨h1, HDL.out⟩ h2)
      go_wp2_with (first
        | (go_at_call 26; refine (HSZ.out _ HA9.out HZ9.out).mono ?_; rintro e w10 ⟨rfl, hb10⟩; have HB10 := Lib.hid (HB9.out.trans (hb10.mono HB9.out.size)); clear hb10)
        | (go_at_call 27; refine (awake40_any _ (HT.out.below HB10.out) (HE.out.below HB10.out) (HM.out.below HB10.out)).mono ?_; rintro e w11 ⟨rfl, hb11⟩; have HB11 := Lib.hid (HB10.out.trans (hb11.mono HB10.out.size)); clear hb11))
      go_ret
      exact ⟨rfl, HB11.out⟩

  case neg =>
    have HC := Lib.hid (show chkB c = false by simpa using hc)
    have HTV : RowKit.Hid (shpTB c = ⟨#[]⟩) := Lib.hid (if_neg hc)
    have HTX := Lib.hid (fun W h1 h2 => Text_shp c W h1 h2)
    rw [HTV.out] at HTX
    clear hc HTV
    go_enter Tryd.func5, Tryd.ntmps5
    go_upto_region 5 with (go_at_call 23; refine (rCheck_no c _ (HCF.out.alloc _) HC.out).mono ?_; rintro e w1 ⟨rfl, hb1⟩)
    have HB1 := Lib.hid (((Below.refl w.heap.size w).alloc (Nat.le_refl _) _).trans (hb1.mono (by simp)))
    have HX1 := Lib.hid ((Blk.new w 45 (cfgCells c)).below hb1 (by simp))
    clear hb1
    generalize hbb : w.heap.size = b at *
    have HBB := Lib.hid hbb
    clear hbb
    have x0 := HX1.out.cell (i := 0) rfl
    have x1 := HX1.out.cell (i := 1) rfl
    have x2 := HX1.out.cell (i := 2) rfl
    have x3 := HX1.out.cell (i := 3) rfl
    have x4 := HX1.out.cell (i := 4) rfl
    have x5 := HX1.out.cell (i := 5) rfl
    have x6 := HX1.out.cell (i := 6) rfl
    have x7 := HX1.out.cell (i := 7) rfl
    have x8 := HX1.out.cell (i := 8) rfl
    have x9 := HX1.out.cell (i := 9) rfl
    have x10 := HX1.out.cell (i := 10) rfl
    have hg1 := HX1.out.lt
    go_upto_region 7 with (go_at_call 25; refine (HTX.out _ (HCF.out.below (HBB.out ▸ HB1.out)) (HT.out.below (HBB.out ▸ HB1.out))).mono ?_; rintro e w2 ⟨rfl, hb2⟩; have HB2 := Lib.hid (HB1.out.trans (hb2.mono (HBB.out ▸ HB1.out.size))); clear hb2)
    have HB := Lib.hid (show Below w.heap.size w w2 from HBB.out ▸ HB2.out)
    clear x0 x1 x2 x3 x4 x5 x6 x7 x8 x9 x10 hg1 HX1 HB1 HB2 HTX
    rcases HRD.out with hno | ⟨d, hyes⟩
    · have HNO := Lib.hid hno
      clear hno
      go_upto_region 8 with (go_at_call 24; refine (Read_no HNO.out HRE.out hs _ (HT.out.below HB.out) (HE.out.below HB.out) (HM.out.below HB.out)).mono ?_; rintro e w5 ⟨rfl, hb5⟩; have HB5 := Lib.hid (HB.out.trans (hb5.mono HB.out.size)); clear hb5)
      have HX6 := Lib.hid (Blk.new w5 45 (cfgCells (plainC 0)))
      have HB6 := Lib.hid (HB5.out.alloc HB5.out.size (.cells (cfgCells (plainC 0)).toArray 45))
      simp only [cfgCells] at HX6 HB6
      generalize (w5.alloc (.cells [Value.int .i64 (plainC 0).kind, Value.int .i64 (plainC 0).threads, Value.int .i64 (plainC 0).chans, Value.int .i64 (plainC 0).cap, Value.int .i64 (plainC 0).nodes, Value.int .i64 (plainC 0).retire, Value.int .i64 (plainC 0).patience, Value.int .i64 (plainC 0).tags, Value.int .i64 (plainC 0).seqs, Value.int .i64 (plainC 0).gens, .slice (plainC 0).sa (plainC 0).start.length (plainC 0).sc].toArray 45)) = W6 at *
      generalize w5.heap.size = g6 at *
      have x0 := HX6.out.cell (i := 0) rfl
      have x1 := HX6.out.cell (i := 1) rfl
      have x2 := HX6.out.cell (i := 2) rfl
      have x3 := HX6.out.cell (i := 3) rfl
      have x4 := HX6.out.cell (i := 4) rfl
      have x5 := HX6.out.cell (i := 5) rfl
      have x6 := HX6.out.cell (i := 6) rfl
      have x7 := HX6.out.cell (i := 7) rfl
      have x8 := HX6.out.cell (i := 8) rfl
      have x9 := HX6.out.cell (i := 9) rfl
      have x10 := HX6.out.cell (i := 10) rfl
      have hg6 := HX6.out.lt
      have HSZ := Lib.hid (fun W h => Shape_same (plainC 0) none 0 W ⟨own_rd (own_nil _ 0 3 1), Nat.zero_le _⟩ h)
      go_wp2_with (first
        | (go_at_call 26; refine (HSZ.out _ (own_rd (own_nil _ 0 3 1))).mono ?_; rintro e w7 ⟨rfl, hb7⟩; have HB7 := Lib.hid (HB6.out.trans (hb7.mono HB6.out.size)); clear hb7)
        | (go_at_call 27; refine (awake40_any _ (HT.out.below HB7.out) (HE.out.below HB7.out) (HM.out.below HB7.out)).mono ?_; rintro e w8 ⟨rfl, hb8⟩; have HB8 := Lib.hid (HB7.out.trans (hb8.mono HB7.out.size)); clear hb8))
      go_ret
      exact ⟨rfl, HB8.out⟩
    · have HYES := Lib.hid (show readS s = some d.norm from hyes.1)
      have HDC := Lib.hid hyes.2
      clear hyes
      go_upto_region 8 with (go_at_call 24; refine (Read_yes HYES.out hs _ (HT.out.below HB.out) (HE.out.below HB.out) (HM.out.below HB.out)).mono ?_; rintro e w5 ⟨sa, sc, rfl, hA, hdl, hb5⟩; have HB5 := Lib.hid (HB.out.trans (hb5.mono HB.out.size)); have HA5 := Lib.hid hA; have HDL := Lib.hid hdl; clear hb5 hA hdl)
      have HX6 := Lib.hid (Blk.new w5 45 (cfgCells { d with sa := sa, sc := sc }))
      have HB6 := Lib.hid (HB5.out.alloc HB5.out.size (.cells (cfgCells { d with sa := sa, sc := sc }).toArray 45))
      have HA6 := Lib.hid (HA5.out.alloc (.cells (cfgCells { d with sa := sa, sc := sc }).toArray 45))
      simp only [cfgCells] at HX6 HB6 HA6
      generalize (w5.alloc (.cells [Value.int .i64 d.kind, Value.int .i64 d.threads, Value.int .i64 d.chans, Value.int .i64 d.cap, Value.int .i64 d.nodes, Value.int .i64 d.retire, Value.int .i64 d.patience, Value.int .i64 d.tags, Value.int .i64 d.seqs, Value.int .i64 d.gens, .slice sa d.start.length sc].toArray 45)) = W6 at *
      generalize w5.heap.size = g6 at *
      have x0 := HX6.out.cell (i := 0) rfl
      have x1 := HX6.out.cell (i := 1) rfl
      have x2 := HX6.out.cell (i := 2) rfl
      have x3 := HX6.out.cell (i := 3) rfl
      have x4 := HX6.out.cell (i := 4) rfl
      have x5 := HX6.out.cell (i := 5) rfl
      have x6 := HX6.out.cell (i := 6) rfl
      have x7 := HX6.out.cell (i := 7) rfl
      have x8 := HX6.out.cell (i := 8) rfl
      have x9 := HX6.out.cell (i := 9) rfl
      have x10 := HX6.out.cell (i := 10) rfl
      have hg6 := HX6.out.lt
      have HCD : RowKit.Hid (chkB { d with sa := sa, sc := sc } = true) := Lib.hid HDC.out
      have HTV : RowKit.Hid (shpTB { d with sa := sa, sc := sc } = shpT { d with sa := sa, sc := sc }) := Lib.hid (if_pos HCD.out)
      have HTZ := Lib.hid (text_words HCD.out).2
      have HTR := Lib.hid (read_text HCD.out)
      have HTX := Lib.hid (fun W h1 h2 => Text_shp { d with sa := sa, sc := sc } W h1 h2)
      rw [HTV.out] at HTX
      generalize shpT { d with sa := sa, sc := sc } = tx at *
      have HR2 := Lib.hid (fun W h1 h2 h3 => Read_yes HTR.out (by have := HTZ.out; omega) W h1 h2 h3)
      go_upto_region 11 with (first
        | (go_at_call 25; refine (HTX.out _ ⟨HA6.out, HDL.out⟩ (HT.out.below HB6.out)).mono ?_; rintro e w7 ⟨rfl, hb7⟩; have HB7 := Lib.hid (HB6.out.trans (hb7.mono HB6.out.size)); have HX7 := Lib.hid (HX6.out.below hb7 HX6.out.lt); have HA7 := Lib.hid (HA6.out.below hb7); clear hb7)
        | (go_at_call 24; refine (HR2.out _ (HT.out.below HB7.out) (HE.out.below HB7.out) (HM.out.below HB7.out)).mono ?_; rintro e w8 ⟨sa2, sc2, rfl, hA8, _, hb8⟩; have HB8 := Lib.hid (HB7.out.trans (hb8.mono HB7.out.size)); have HX8 := Lib.hid (HX7.out.below hb8 HX7.out.lt); have HA8 := Lib.hid (HA7.out.below hb8); have HZ8 := Lib.hid hA8; clear hb8 hA8))
      have HX9 := Lib.hid (Blk.new w8 45 (cfgCells { d with sa := sa2, sc := sc2 }))
      have HB9 := Lib.hid (HB8.out.alloc HB8.out.size (.cells (cfgCells { d with sa := sa2, sc := sc2 }).toArray 45))
      have HA9 := Lib.hid (HA8.out.alloc (.cells (cfgCells { d with sa := sa2, sc := sc2 }).toArray 45))
      have HZ9 := Lib.hid (HZ8.out.alloc (.cells (cfgCells { d with sa := sa2, sc := sc2 }).toArray 45))
      have HY9 := Lib.hid (HX8.out.alloc (.cells (cfgCells { d with sa := sa2, sc := sc2 }).toArray 45))
      simp only [cfgCells] at HX9 HB9 HA9 HZ9 HY9
      clear x0 x1 x2 x3 x4 x5 x6 x7 x8 x9 x10 hg6
      generalize (w8.alloc (.cells [Value.int .i64 d.kind, Value.int .i64 d.threads, Value.int .i64 d.chans, Value.int .i64 d.cap, Value.int .i64 d.nodes, Value.int .i64 d.retire, Value.int .i64 d.patience, Value.int .i64 d.tags, Value.int .i64 d.seqs, Value.int .i64 d.gens, .slice sa2 d.start.length sc2].toArray 45)) = W9 at *
      generalize w8.heap.size = g9 at *
      have x0 := HY9.out.cell (i := 0) rfl
      have x1 := HY9.out.cell (i := 1) rfl
      have x2 := HY9.out.cell (i := 2) rfl
      have x3 := HY9.out.cell (i := 3) rfl
      have x4 := HY9.out.cell (i := 4) rfl
      have x5 := HY9.out.cell (i := 5) rfl
      have x6 := HY9.out.cell (i := 6) rfl
      have x7 := HY9.out.cell (i := 7) rfl
      have x8 := HY9.out.cell (i := 8) rfl
      have x9 := HY9.out.cell (i := 9) rfl
      have x10 := HY9.out.cell (i := 10) rfl
      have y0 := HX9.out.cell (i := 0) rfl
      have y1 := HX9.out.cell (i := 1) rfl
      have y2 := HX9.out.cell (i := 2) rfl
      have y3 := HX9.out.cell (i := 3) rfl
      have y4 := HX9.out.cell (i := 4) rfl
      have y5 := HX9.out.cell (i := 5) rfl
      have y6 := HX9.out.cell (i := 6) rfl
      have y7 := HX9.out.cell (i := 7) rfl
      have y8 := HX9.out.cell (i := 8) rfl
      have y9 := HX9.out.cell (i := 9) rfl
      have y10 := HX9.out.cell (i := 10) rfl
      have hg6 := HY9.out.lt
      have hg9 := HX9.out.lt
      have HSZ := Lib.hid (fun W h1 h2 => Shape_same { d with sa := sa, sc := sc } sa2 sc2 W ⟨h1, HDL.out⟩ h2)
      go_wp2_with (first
        | (go_at_call 26; refine (HSZ.out _ HA9.out HZ9.out).mono ?_; rintro e w10 ⟨rfl, hb10⟩; have HB10 := Lib.hid (HB9.out.trans (hb10.mono HB9.out.size)); clear hb10)
        | (go_at_call 27; refine (awake40_any _ (HT.out.below HB10.out) (HE.out.below HB10.out) (HM.out.below HB10.out)).mono ?_; rintro e w11 ⟨rfl, hb11⟩; have HB11 := Lib.hid (HB10.out.trans (hb11.mono HB10.out.size)); clear hb11))
      go_ret
      exact ⟨rfl, HB11.out⟩


end Go.Proofs.YtknlhkkpheahlaaDoor
