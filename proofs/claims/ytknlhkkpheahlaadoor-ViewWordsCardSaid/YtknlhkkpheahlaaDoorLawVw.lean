/- The law ViewWords, walked. -/
import Derived.Test.YtknlhkkpheahlaaDoorVw4
import Derived.Test.YtknlhkkpheahlaaDoorNameS
namespace Go.Proofs.YtknlhkkpheahlaaDoor
open Go.RowKit Go.Sort

def exC : Cfg := ⟨1, 2, 0, 1, 3, 1, 0, 1, 1, 0, [], none, 0⟩
theorem exC_in (w : World) : CfgIn w exC := ⟨.inl rfl, Nat.zero_le _⟩
theorem ex_w1 : wordS (whatS exC 0).1 (whatS exC 0).2.1 (whatS exC 0).2.2 65537 = ⟨#[114, 111, 111, 116, 32, 48, 58, 49]⟩ := by decide +kernel
theorem ex_w2 : wordS (whatS exC 13).1 (whatS exC 13).2.1 (whatS exC 13).2.2 255 = ⟨#[97, 114, 103, 115, 32, 49, 32, 51, 32, 102, 102]⟩ := by decide +kernel
theorem ex_w3 : wordS (whatS exC 99).1 (whatS exC 99).2.1 (whatS exC 99).2.2 0 = ⟨#[110, 111, 116, 104, 105, 110, 103]⟩ := by decide +kernel
theorem ex_rs : resS ⟨2, 0, 14, 0⟩ = ⟨#[99, 97, 108, 108, 32, 50, 32, 112, 97, 114, 107, 32, 48, 32, 99, 97, 115, 101, 32, 48]⟩ := by decide +kernel
theorem ex_st : stepS 15 = ⟨#[115, 119, 97, 112, 114, 111, 111, 116]⟩ := by decide +kernel

set_option maxHeartbeats 4000000 in
set_option maxRecDepth 100000 in
theorem awake25_any (w : World) (ht : TabT w) (hz : Tz16 w) : Calls Tryd.prog 22 #[] w fun e w' => e = .returned (.bool true) ∧ Below w.heap.size w w' := by
  have HT := Lib.hid ht
  have HZ := Lib.hid hz
  have HB0 := Lib.hid ((Below.refl w.heap.size w).alloc (Nat.le_refl _) (.cells #[.int .i64 1, .int .i64 2, .int .i64 0, .int .i64 1, .int .i64 3, .int .i64 1, .int .i64 0, .int .i64 1, .int .i64 1, .int .i64 0, .slice none 0 0] 45))
  have HX := Lib.hid (BoxC.new w exC)
  have H1 := Lib.hid (fun W h1 h2 h3 => vWord_any exC 0 65537 W h1 (by decide) h2 h3)
  have H2 := Lib.hid (fun W h1 h2 h3 => vWord_any exC 13 255 W h1 (by decide) h2 h3)
  have H3 := Lib.hid (fun W h1 h2 h3 => vWord_any exC 99 0 W h1 (by decide) h2 h3)
  have H4 := Lib.hid (fun W h => vRes_any ⟨2, 0, 14, 0⟩ W ⟨by decide, by decide⟩ ⟨by decide, by decide⟩ ⟨by decide, by decide⟩ h)
  have H5 := Lib.hid (fun W => stepS_any 15 W)
  rw [ex_w1] at H1
  rw [ex_w2] at H2
  rw [ex_w3] at H3
  rw [ex_rs] at H4
  rw [ex_st] at H5
  unfold cfgV exC at H1 H2 H3
  unfold exC at HX
  unfold rsV at H4
  simp only [List.length_nil] at H1 H2 H3 H4 HX
  clear ht hz
  go_enter Tryd.func22, Tryd.ntmps22
  go_wp2_with fail
  generalize w.alloc (.cells #[.int .i64 1, .int .i64 2, .int .i64 0, .int .i64 1, .int .i64 3, .int .i64 1, .int .i64 0, .int .i64 1, .int .i64 1, .int .i64 0, .slice none 0 0] 45) = W0 at *
  refine (H1.out _ (exC_in _) (HT.out.below HB0.out) (HZ.out.below HB0.out)).mono ?_
  rintro e w1 ⟨rfl, hb1⟩
  have HB1 := Lib.hid (HB0.out.trans (hb1.mono HB0.out.size))
  have HX1 := Lib.hid (HX.out.below hb1)
  have hx1 := HX1.out.all
  simp only at hx1
  obtain ⟨y0, y1, y2, y3, y4, y5, y6, y7, y8, y9, y10⟩ := hx1
  clear hb1
  go_wp2_with fail
  refine (H2.out _ (exC_in _) (HT.out.below HB1.out) (HZ.out.below HB1.out)).mono ?_
  rintro e w2 ⟨rfl, hb2⟩
  have HB2 := Lib.hid (HB1.out.trans (hb2.mono HB1.out.size))
  have hx2 := (HX1.out.below hb2).all
  simp only at hx2
  clear y0 y1 y2 y3 y4 y5 y6 y7 y8 y9 y10 hb2
  obtain ⟨y0, y1, y2, y3, y4, y5, y6, y7, y8, y9, y10⟩ := hx2
  go_wp2_with fail
  refine (H3.out _ (exC_in _) (HT.out.below HB2.out) (HZ.out.below HB2.out)).mono ?_
  rintro e w3 ⟨rfl, hb3⟩
  have HB3 := Lib.hid (HB2.out.trans (hb3.mono HB2.out.size))
  clear y0 y1 y2 y3 y4 y5 y6 y7 y8 y9 y10 hb3
  go_wp2_with fail
  refine (H4.out _ (HT.out.below HB3.out)).mono ?_
  rintro e w4 ⟨rfl, hb4⟩
  have HB4 := Lib.hid (HB3.out.trans (hb4.mono HB3.out.size))
  clear hb4
  go_wp2_with fail
  refine (H5.out _).mono ?_
  rintro e w5 ⟨rfl, hb5⟩
  have HB5 := Lib.hid (HB4.out.trans (hb5.mono HB4.out.size))
  clear hb5
  go_wp2
  go_ret
  exact ⟨rfl, HB5.out⟩

set_option maxHeartbeats 32000000 in
set_option maxRecDepth 100000 in
theorem LawVw_any (c : Cfg) (a : Int) (u : Nat) (r : Rf) (x : Resr) (pc : Int) (w : World) (hcf : CfgIn w c) (hu : u < 18446744073709551616) (hr1 : In64 r.index) (hr2 : In64 r.tag) (hx1 : In64 x.seq) (hx2 : In64 x.value) (hx3 : In64 x.case_) (ht : TabT w) (hz : Tz16 w) :
    Calls Tryd.prog 4 #[cfgV c, .int .i64 a, .int .u64 u, rfV r, rsV x, .int .i64 pc] w fun e w' => e = .returned (.bool true) ∧ Below w.heap.size w w' := by
  have HW1 := Lib.hid (fun W h1 h2 h3 => vWord_any c a u W h1 hu h2 h3)
  have HW2 := Lib.hid (fun W h1 => rWord_any c a u W h1 hu)
  have HR1 := Lib.hid (fun W h => vRef_any r W hr1 hr2 h)
  have HR2 := Lib.hid (fun W => rRef_any r W hr1 hr2)
  have HS1 := Lib.hid (fun W h => vRes_any x W hx1 hx2 hx3 h)
  have HS2 := Lib.hid (fun W => rRes_any x W hx1 hx2 hx3)
  have HC1 := Lib.hid (fun W => codeS_any x.code W)
  have HC2 := Lib.hid (fun W => rcodeS_any x.code W)
  have HP1 := Lib.hid (fun W => stepS_any pc W)
  have HP2 := Lib.hid (fun W => rstepS_any pc W)
  have HA := Lib.hid (fun W h1 h2 => awake25_any W h1 h2)
  have HB0 := Lib.hid ((((Below.refl w.heap.size w).alloc (Nat.le_refl _) (.cells #[.int .i64 c.kind, .int .i64 c.threads, .int .i64 c.chans, .int .i64 c.cap, .int .i64 c.nodes, .int .i64 c.retire, .int .i64 c.patience, .int .i64 c.tags, .int .i64 c.seqs, .int .i64 c.gens, .slice c.sa c.start.length c.sc] 45)).alloc (by simp) (.cells #[.int .i64 r.index, .int .i64 r.tag] 48)).alloc (by simp; omega) (.cells #[.int .i64 x.seq, .int .i64 x.case_, .int .i64 x.code, .int .i64 x.value] 27))
  have HXC := Lib.hid (show BoxC (((w.alloc (.cells #[.int .i64 c.kind, .int .i64 c.threads, .int .i64 c.chans, .int .i64 c.cap, .int .i64 c.nodes, .int .i64 c.retire, .int .i64 c.patience, .int .i64 c.tags, .int .i64 c.seqs, .int .i64 c.gens, .slice c.sa c.start.length c.sc] 45)).alloc (.cells #[.int .i64 r.index, .int .i64 r.tag] 48)).alloc (.cells #[.int .i64 x.seq, .int .i64 x.case_, .int .i64 x.code, .int .i64 x.value] 27)) w.heap.size c from ((BoxC.new w c).below ((Below.refl _ _).alloc (Nat.le_refl _) (.cells #[.int .i64 r.index, .int .i64 r.tag] 48))).below ((Below.refl _ _).alloc (Nat.le_refl _) (.cells #[.int .i64 x.seq, .int .i64 x.case_, .int .i64 x.code, .int .i64 x.value] 27)))
  have HXR := Lib.hid (show Blk (((w.alloc (.cells #[.int .i64 c.kind, .int .i64 c.threads, .int .i64 c.chans, .int .i64 c.cap, .int .i64 c.nodes, .int .i64 c.retire, .int .i64 c.patience, .int .i64 c.tags, .int .i64 c.seqs, .int .i64 c.gens, .slice c.sa c.start.length c.sc] 45)).alloc (.cells #[.int .i64 r.index, .int .i64 r.tag] 48)).alloc (.cells #[.int .i64 x.seq, .int .i64 x.case_, .int .i64 x.code, .int .i64 x.value] 27)) (w.heap.size + 1) 48 [.int .i64 r.index, .int .i64 r.tag] from (blk_new (cs := [.int .i64 r.index, .int .i64 r.tag]) (by simp)).alloc _)
  have HXS := Lib.hid (show Blk (((w.alloc (.cells #[.int .i64 c.kind, .int .i64 c.threads, .int .i64 c.chans, .int .i64 c.cap, .int .i64 c.nodes, .int .i64 c.retire, .int .i64 c.patience, .int .i64 c.tags, .int .i64 c.seqs, .int .i64 c.gens, .slice c.sa c.start.length c.sc] 45)).alloc (.cells #[.int .i64 r.index, .int .i64 r.tag] 48)).alloc (.cells #[.int .i64 x.seq, .int .i64 x.case_, .int .i64 x.code, .int .i64 x.value] 27)) (w.heap.size + 1 + 1) 27 x.cells from blk_new (cs := x.cells) (by simp))
  have HCF := Lib.hid hcf
  have HT := Lib.hid ht
  have HZ := Lib.hid hz
  clear hcf hu hr1 hr2 hx1 hx2 hx3 ht hz
  generalize wordS (whatS c a).1 (whatS c a).2.1 (whatS c a).2.2 u = x1 at *
  generalize refS r = x2 at *
  generalize resS x = x3 at *
  generalize codeS x.code = x4 at *
  generalize stepS pc = x5 at *
  have e1 : (x1.toList == x1.toList) = true := beq_self_eq_true x1.toList
  have e2 : (x2.toList == x2.toList) = true := beq_self_eq_true x2.toList
  have e3 : (x3.toList == x3.toList) = true := beq_self_eq_true x3.toList
  have e4 : (x4.toList == x4.toList) = true := beq_self_eq_true x4.toList
  have e5 : (x5.toList == x5.toList) = true := beq_self_eq_true x5.toList
  unfold rsV
  unfold cfgV rsV at *
  go_enter Tryd.func4, Tryd.ntmps4
  go_upto_region 1 with (fail)
  generalize (((w.alloc (.cells #[.int .i64 c.kind, .int .i64 c.threads, .int .i64 c.chans, .int .i64 c.cap, .int .i64 c.nodes, .int .i64 c.retire, .int .i64 c.patience, .int .i64 c.tags, .int .i64 c.seqs, .int .i64 c.gens, .slice c.sa c.start.length c.sc] 45)).alloc (.cells #[.int .i64 r.index, .int .i64 r.tag] 48)).alloc (.cells #[.int .i64 x.seq, .int .i64 x.case_, .int .i64 x.code, .int .i64 x.value] 27)) = W0 at *
  have HCW := Lib.hid (HCF.out.below HB0.out)
  have HTW := Lib.hid (HT.out.below HB0.out)
  have HZW := Lib.hid (HZ.out.below HB0.out)
  obtain ⟨c0, c1, c2, c3, c4, c5, c6, c7, c8, c9, c10⟩ := HXC.out.all
  have d0 := HXR.out.cell (i := 0) rfl
  have d1 := HXR.out.cell (i := 1) rfl
  obtain ⟨s0, s1, s2, s3⟩ := rsBox HXS.out
  have hg1 := HXC.out.1
  have hg2 := HXR.out.lt
  have hg3 := HXS.out.lt
  generalize hb0 : w.heap.size = b0 at *
  have HDR := Lib.hid (Below.drewN' (Below.refl W0.heap.size W0) 1)
  have GCT0 : RowKit.Hid (CfgIn W0.drew c) := Lib.hid (HCW.out.below HDR.out)
  have GT0 : RowKit.Hid (TabT W0.drew) := Lib.hid (HTW.out.below HDR.out)
  have GZ0 : RowKit.Hid (Tz16 W0.drew) := Lib.hid (HZW.out.below HDR.out)
  have HBB := Lib.hid HB0.out.size
  go_region_held3 (fun w' => w'.cell? ⟨b0, 0, none⟩ = some (.int .i64 c.kind) ∧ w'.cell? ⟨b0, 1, none⟩ = some (.int .i64 c.threads) ∧ w'.cell? ⟨b0, 2, none⟩ = some (.int .i64 c.chans) ∧ w'.cell? ⟨b0, 3, none⟩ = some (.int .i64 c.cap) ∧ w'.cell? ⟨b0, 4, none⟩ = some (.int .i64 c.nodes) ∧ w'.cell? ⟨b0, 5, none⟩ = some (.int .i64 c.retire) ∧ w'.cell? ⟨b0, 6, none⟩ = some (.int .i64 c.patience) ∧ w'.cell? ⟨b0, 7, none⟩ = some (.int .i64 c.tags) ∧ w'.cell? ⟨b0, 8, none⟩ = some (.int .i64 c.seqs) ∧ w'.cell? ⟨b0, 9, none⟩ = some (.int .i64 c.gens) ∧ w'.cell? ⟨b0, 10, none⟩ = some (.slice c.sa c.start.length c.sc) ∧ w'.cell? ⟨b0 + 1, 0, none⟩ = some (.int .i64 r.index) ∧ w'.cell? ⟨b0 + 1, 1, none⟩ = some (.int .i64 r.tag) ∧ w'.cell? ⟨b0 + 1 + 1, 0, none⟩ = some (.int .i64 x.seq) ∧ w'.cell? ⟨b0 + 1 + 1, 1, none⟩ = some (.int .i64 x.case_) ∧ w'.cell? ⟨b0 + 1 + 1, 2, none⟩ = some (.int .i64 x.code) ∧ w'.cell? ⟨b0 + 1 + 1, 3, none⟩ = some (.int .i64 x.value)) (first | go_keep | (simp only [hk1, hk2, hk3]; go_keep)) (first
    | (go_at_call 12; (with_reducible refine (HW1.out W0.drew GCT0.out GT0.out GZ0.out).mono ?_); rintro e v1 ⟨rfl, hb1⟩; have hB1 : Below W0.heap.size W0 v1 := ⟨hb1.os, hb1.tape, hb1.output, hb1.size, hb1.block⟩; have hk1 := fun o => hB1.cell (p := ⟨b0, o, none⟩) hg1; have hk2 := fun o => hB1.cell (p := ⟨b0 + 1, o, none⟩) hg2; have hk3 := fun o => hB1.cell (p := ⟨b0 + 1 + 1, o, none⟩) hg3; have GCT1 := Lib.hid (HCW.out.below hB1))
    | (go_at_call 13; (with_reducible refine (HW2.out v1 GCT1.out).mono ?_); rintro e v2 ⟨rfl, hb2⟩; have hB2 : Below W0.heap.size W0 v2 := hB1.trans (hb2.mono hB1.size); have hk1 := fun o => hB2.cell (p := ⟨b0, o, none⟩) hg1; have hk2 := fun o => hB2.cell (p := ⟨b0 + 1, o, none⟩) hg2; have hk3 := fun o => hB2.cell (p := ⟨b0 + 1 + 1, o, none⟩) hg3; have GT2 := Lib.hid (HTW.out.below hB2))
    | (go_at_call 14; (with_reducible refine (HR1.out v2 GT2.out).mono ?_); rintro e v3 ⟨rfl, hb3⟩; have hB3 : Below W0.heap.size W0 v3 := hB2.trans (hb3.mono hB2.size); have hk1 := fun o => hB3.cell (p := ⟨b0, o, none⟩) hg1; have hk2 := fun o => hB3.cell (p := ⟨b0 + 1, o, none⟩) hg2; have hk3 := fun o => hB3.cell (p := ⟨b0 + 1 + 1, o, none⟩) hg3)
    | (go_at_call 15; (with_reducible refine (HR2.out v3).mono ?_); rintro e v4 ⟨rfl, hb4⟩; have hB4 : Below W0.heap.size W0 v4 := hB3.trans (hb4.mono hB3.size); have hk1 := fun o => hB4.cell (p := ⟨b0, o, none⟩) hg1; have hk2 := fun o => hB4.cell (p := ⟨b0 + 1, o, none⟩) hg2; have hk3 := fun o => hB4.cell (p := ⟨b0 + 1 + 1, o, none⟩) hg3; have GT4 := Lib.hid (HTW.out.below hB4))
    | (go_at_call 16; (with_reducible refine (HS1.out v4 GT4.out).mono ?_); rintro e v5 ⟨rfl, hb5⟩; have hB5 : Below W0.heap.size W0 v5 := hB4.trans (hb5.mono hB4.size); have hk1 := fun o => hB5.cell (p := ⟨b0, o, none⟩) hg1; have hk2 := fun o => hB5.cell (p := ⟨b0 + 1, o, none⟩) hg2; have hk3 := fun o => hB5.cell (p := ⟨b0 + 1 + 1, o, none⟩) hg3)
    | (go_at_call 17; (with_reducible refine (HS2.out v5).mono ?_); rintro e v6 ⟨rfl, hb6⟩; have hB6 : Below W0.heap.size W0 v6 := hB5.trans (hb6.mono hB5.size); have hk1 := fun o => hB6.cell (p := ⟨b0, o, none⟩) hg1; have hk2 := fun o => hB6.cell (p := ⟨b0 + 1, o, none⟩) hg2; have hk3 := fun o => hB6.cell (p := ⟨b0 + 1 + 1, o, none⟩) hg3)
    | (go_at_call 18; (with_reducible refine (HC1.out v6).mono ?_); rintro e v7 ⟨rfl, hb7⟩; have hB7 : Below W0.heap.size W0 v7 := hB6.trans (hb7.mono hB6.size); have hk1 := fun o => hB7.cell (p := ⟨b0, o, none⟩) hg1; have hk2 := fun o => hB7.cell (p := ⟨b0 + 1, o, none⟩) hg2; have hk3 := fun o => hB7.cell (p := ⟨b0 + 1 + 1, o, none⟩) hg3)
    | (go_at_call 19; (with_reducible refine (HC2.out v7).mono ?_); rintro e v8 ⟨rfl, hb8⟩; have hB8 : Below W0.heap.size W0 v8 := hB7.trans (hb8.mono hB7.size); have hk1 := fun o => hB8.cell (p := ⟨b0, o, none⟩) hg1; have hk2 := fun o => hB8.cell (p := ⟨b0 + 1, o, none⟩) hg2; have hk3 := fun o => hB8.cell (p := ⟨b0 + 1 + 1, o, none⟩) hg3)
    | (go_at_call 20; (with_reducible refine (HP1.out v8).mono ?_); rintro e v9 ⟨rfl, hb9⟩; have hB9 : Below W0.heap.size W0 v9 := hB8.trans (hb9.mono hB8.size); have hk1 := fun o => hB9.cell (p := ⟨b0, o, none⟩) hg1; have hk2 := fun o => hB9.cell (p := ⟨b0 + 1, o, none⟩) hg2; have hk3 := fun o => hB9.cell (p := ⟨b0 + 1 + 1, o, none⟩) hg3)
    | (go_at_call 21; (with_reducible refine (HP2.out v9).mono ?_); rintro e v10 ⟨rfl, hb10⟩; have hB10 : Below W0.heap.size W0 v10 := hB9.trans (hb10.mono hB9.size); have hk1 := fun o => hB10.cell (p := ⟨b0, o, none⟩) hg1; have hk2 := fun o => hB10.cell (p := ⟨b0 + 1, o, none⟩) hg2; have hk3 := fun o => hB10.cell (p := ⟨b0 + 1 + 1, o, none⟩) hg3; have GT10 := Lib.hid (HTW.out.below hB10); have GZ10 := Lib.hid (HZW.out.below hB10))
    | (go_at_call 22; (with_reducible refine (HA.out v10 GT10.out GZ10.out).mono ?_); rintro e v11 ⟨rfl, hb11⟩; have hB11 : Below W0.heap.size W0 v11 := hB10.trans (hb11.mono hB10.size); have hk1 := fun o => hB11.cell (p := ⟨b0, o, none⟩) hg1; have hk2 := fun o => hB11.cell (p := ⟨b0 + 1, o, none⟩) hg2; have hk3 := fun o => hB11.cell (p := ⟨b0 + 1 + 1, o, none⟩) hg3))
  go_wp2
  go_ret
  exact ⟨rfl, by rw [hb0]; exact HB0.out.trans (hB11.mono (by rw [← hb0]; exact HBB.out))⟩

end Go.Proofs.YtknlhkkpheahlaaDoor
