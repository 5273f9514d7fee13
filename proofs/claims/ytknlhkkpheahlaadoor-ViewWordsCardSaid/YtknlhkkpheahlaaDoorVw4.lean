/- The document's Word, walked. -/
import Derived.Test.YtknlhkkpheahlaaDoorVw3
namespace Go.Proofs.YtknlhkkpheahlaaDoor
open Go.RowKit Go.Sort

set_option maxHeartbeats 16000000 in
set_option maxRecDepth 100000 in
theorem rWord_any (c : Cfg) (a : Int) (u : Nat) (w : World) (hcf : CfgIn w c) (hu : u < 18446744073709551616) :
    Calls Tryd.prog 13 #[cfgV c, .int .i64 a, .int .u64 u] w fun e w' => e = .returned (.string (wordS (whatS c a).1 (whatS c a).2.1 (whatS c a).2.2 u)) ∧ Below w.heap.size w w' := by
  obtain ⟨b1, b2, b3, b4, b5, b6⟩ := what_b (c := c) (a := a)
  have HC := Lib.hid hcf
  have HB0 := Lib.hid ((Below.refl w.heap.size w).alloc (Nat.le_refl _) (.cells #[.int .i64 c.kind, .int .i64 c.threads, .int .i64 c.chans, .int .i64 c.cap, .int .i64 c.nodes, .int .i64 c.retire, .int .i64 c.patience, .int .i64 c.tags, .int .i64 c.seqs, .int .i64 c.gens, .slice c.sa c.start.length c.sc] 45))
  have HCW := Lib.hid (HC.out.below HB0.out)
  have HX := Lib.hid (BoxC.new w c)
  have HW := Lib.hid (fun W h => rWhat_any c a W h)
  have HWE : RowKit.Hid (whatS c a = whatS c a) := Lib.hid rfl
  generalize hp : whatS c a = p at *
  obtain ⟨s, of, pl⟩ := p
  simp only at b1 b2 b3 b4 b5 b6 HW
  have HP := Lib.hid hp
  have ho : In64 of := ⟨by omega, by omega⟩
  have hpl : In64 pl := ⟨by omega, by omega⟩
  have HDO := Lib.hid (fun W => rdec_any of W ho)
  have HDP := Lib.hid (fun W => rdec_any pl W hpl)
  have HNM := Lib.hid (fun W => rname_any u W hu)
  have HFU := Lib.hid (fun W => vdec_any 19 u W (Nat.lt_of_lt_of_le hu (by decide)) hu)
  have HFH := Lib.hid (fun W => vdec_any 19 (u / 2) W (Nat.lt_of_le_of_lt (Nat.div_le_self _ _) (Nat.lt_of_lt_of_le hu (by decide))) (Nat.lt_of_le_of_lt (Nat.div_le_self _ _) hu))
  rw [show ((u / 2 : Nat) : Int) = (u : Int) / 2 by omega] at HFH
  have HHX := Lib.hid (fun W => vhex_any 15 u W (by simpa using hu) hu)
  have HRR := Lib.hid (fun W => rReadResult_any u hu W)
  have HRS := Lib.hid (fun W => rRes_any (rrOf u) W (rr_in u hu).1 (rr_in u hu).2.1 (rr_in u hu).2.2)
  have HSP := Lib.hid (fun W => sorts_split W)
  have so := itoaS_size ho
  have sp := itoaS_size hpl
  have sn := nameWS_size u hu
  have sd := udecS_size u hu
  have sh := hexS_size u hu
  have si := insideS_size u hu
  have sr := resS_size (rr_in u hu).1 (rr_in u hu).2.1 (rr_in u hu).2.2
  have HV0 := Lib.hid (wordS_0 of pl u)
  have HV1 := Lib.hid (wordS_1 of pl u)
  have HV2 := Lib.hid (wordS_2 of pl u)
  have HV3 := Lib.hid (wordS_3 of pl u)
  have HV4 := Lib.hid (wordS_4 of pl u)
  have HV5 := Lib.hid (wordS_5 of pl u)
  have HV6 := Lib.hid (wordS_6 of pl u)
  have HV7 := Lib.hid (wordS_7 of pl u)
  have HV8 := Lib.hid (wordS_8 of pl u)
  have HV9 := Lib.hid (wordS_9 of pl u)
  have HV10 := Lib.hid (wordS_10 of pl u)
  have HPO : RowKit.Hid (∀ W' R, wordS s of pl u = R → Below w.heap.size w W' → (Ending.returned (.string R) : Ending) = .returned (.string (wordS s of pl u)) ∧ Below w.heap.size w W') := Lib.hid (fun W' R h hb => ⟨by rw [← h], hb⟩)
  clear hcf ho hpl hp HP HWE
  generalize hrr : rrOf u = rr at *
  clear hrr
  obtain ⟨r1, r2, r3, r4⟩ := rr
  unfold rsV at HRR HRS
  simp only at HRR HRS
  have HIU : RowKit.Hid (insideS u = if u = 0 then ⟨#[111, 117, 116]⟩ else udecS (u / 2)) := Lib.hid rfl
  have sq := udecS_size (u / 2) (Nat.lt_of_le_of_lt (Nat.div_le_self _ _) hu)
  generalize itoaS of = zo at *
  generalize itoaS pl = zp at *
  generalize nameWS u = nm at *
  generalize udecS u = du at *
  generalize udecS (u / 2) = dh at *
  generalize hexS u = hx at *
  generalize insideS u = iu at *
  generalize hrs : resS ⟨r1, r2, r3, r4⟩ = rs at *
  clear hrs
  unfold cfgV
  unfold cfgV at HW
  rcases (show s = 0 ∨ s = 1 ∨ s = 2 ∨ s = 3 ∨ s = 4 ∨ s = 5 ∨ s = 6 ∨ (s = 7 ∧ u = 0) ∨ (s = 7 ∧ u ≠ 0) ∨ s = 8 ∨ s = 9 ∨ s = 10 by omega) with rfl | rfl | rfl | rfl | rfl | rfl | rfl | ⟨rfl, h0⟩ | ⟨rfl, h0⟩ | rfl | rfl | rfl
  · clear b1 b2 b3 b4 b5 b6 HV1 HV2 HV3 HV4 HV5 HV6 HV7 HV8 HV9 HV10
    go_enter Tryd.func13, Tryd.ntmps13
    go_wp2_with fail
    generalize w.alloc (.cells #[.int .i64 c.kind, .int .i64 c.threads, .int .i64 c.chans, .int .i64 c.cap, .int .i64 c.nodes, .int .i64 c.retire, .int .i64 c.patience, .int .i64 c.tags, .int .i64 c.seqs, .int .i64 c.gens, .slice c.sa c.start.length c.sc] 45) = W0 at *
    refine (HW.out _ HCW.out).mono ?_
    rintro e w1 ⟨rfl, hb1⟩
    have HB1 := Lib.hid (HB0.out.trans (hb1.mono HB0.out.size))
    clear hb1
    go_wp2_with fail
    refine (HSP.out _).mono ?_
    rintro e w2 ⟨A, cp, rfl, hr2, hb2⟩
    have HB2 := Lib.hid (HB1.out.trans (hb2.mono HB1.out.size))
    obtain ⟨b, o, rfl, hbl, hc⟩ := rd_str hr2 (k := 0) (by rw [sorts_len]; decide)
    have hc' : w2.cell? ⟨b, o, none⟩ = some (.string ⟨#[110, 111, 116, 104, 105, 110, 103]⟩) := hc
    clear hb2 hr2 hc
    go_wp2
    go_ret
    exact HPO.out _ _ HV0.out HB2.out
  · clear b1 b2 b3 b4 b5 b6 HV0 HV2 HV3 HV4 HV5 HV6 HV7 HV8 HV9 HV10
    go_enter Tryd.func13, Tryd.ntmps13
    go_wp2_with fail
    generalize w.alloc (.cells #[.int .i64 c.kind, .int .i64 c.threads, .int .i64 c.chans, .int .i64 c.cap, .int .i64 c.nodes, .int .i64 c.retire, .int .i64 c.patience, .int .i64 c.tags, .int .i64 c.seqs, .int .i64 c.gens, .slice c.sa c.start.length c.sc] 45) = W0 at *
    refine (HW.out _ HCW.out).mono ?_
    rintro e w1 ⟨rfl, hb1⟩
    have HB1 := Lib.hid (HB0.out.trans (hb1.mono HB0.out.size))
    clear hb1
    go_wp2_with fail
    refine (HSP.out _).mono ?_
    rintro e w2 ⟨A, cp, rfl, hr2, hb2⟩
    have HB2 := Lib.hid (HB1.out.trans (hb2.mono HB1.out.size))
    obtain ⟨b, o, rfl, hbl, hc⟩ := rd_str hr2 (k := 1) (by rw [sorts_len]; decide)
    have hc' : w2.cell? ⟨b, o + 1, none⟩ = some (.string ⟨#[114, 111, 111, 116]⟩) := hc
    clear hb2 hr2 hc
    have f0 : ¬ 9223372036854775807 < 4 + 1 + nm.size := by omega
    have f1 : ¬ 9223372036854775807 < 5 + nm.size := by omega
    go_wp2_with fail
    refine (HNM.out _).mono ?_
    rintro e w3 ⟨rfl, hb3⟩
    have HB3 := Lib.hid (HB2.out.trans (hb3.mono HB2.out.size))
    clear hb3
    go_wp2
    go_ret
    exact HPO.out _ _ (by rw [HV1.out, show ⟨#[114, 111, 111, 116, 32]⟩ = (⟨#[114, 111, 111, 116]⟩ ++ ⟨#[32]⟩ : ByteArray) by decide +kernel]) HB3.out
  · clear b1 b2 b3 b4 b5 b6 HV0 HV1 HV3 HV4 HV5 HV6 HV7 HV8 HV9 HV10
    go_enter Tryd.func13, Tryd.ntmps13
    go_wp2_with fail
    generalize w.alloc (.cells #[.int .i64 c.kind, .int .i64 c.threads, .int .i64 c.chans, .int .i64 c.cap, .int .i64 c.nodes, .int .i64 c.retire, .int .i64 c.patience, .int .i64 c.tags, .int .i64 c.seqs, .int .i64 c.gens, .slice c.sa c.start.length c.sc] 45) = W0 at *
    refine (HW.out _ HCW.out).mono ?_
    rintro e w1 ⟨rfl, hb1⟩
    have HB1 := Lib.hid (HB0.out.trans (hb1.mono HB0.out.size))
    clear hb1
    go_wp2_with fail
    refine (HSP.out _).mono ?_
    rintro e w2 ⟨A, cp, rfl, hr2, hb2⟩
    have HB2 := Lib.hid (HB1.out.trans (hb2.mono HB1.out.size))
    obtain ⟨b, o, rfl, hbl, hc⟩ := rd_str hr2 (k := 2) (by rw [sorts_len]; decide)
    have hc' : w2.cell? ⟨b, o + 2, none⟩ = some (.string ⟨#[101, 112, 111, 99, 104]⟩) := hc
    clear hb2 hr2 hc
    have f0 : ¬ 9223372036854775807 < 5 + 1 + du.size := by omega
    have f1 : ¬ 9223372036854775807 < 6 + du.size := by omega
    go_wp2_with fail
    refine (HFU.out _).mono ?_
    rintro e w3 ⟨rfl, hb3⟩
    have HB3 := Lib.hid (HB2.out.trans (hb3.mono HB2.out.size))
    clear hb3
    go_wp2
    go_ret
    exact HPO.out _ _ (by rw [HV2.out, show ⟨#[101, 112, 111, 99, 104, 32]⟩ = (⟨#[101, 112, 111, 99, 104]⟩ ++ ⟨#[32]⟩ : ByteArray) by decide +kernel]) HB3.out
  · clear b1 b2 b3 b4 b5 b6 HV0 HV1 HV2 HV4 HV5 HV6 HV7 HV8 HV9 HV10
    go_enter Tryd.func13, Tryd.ntmps13
    go_wp2_with fail
    generalize w.alloc (.cells #[.int .i64 c.kind, .int .i64 c.threads, .int .i64 c.chans, .int .i64 c.cap, .int .i64 c.nodes, .int .i64 c.retire, .int .i64 c.patience, .int .i64 c.tags, .int .i64 c.seqs, .int .i64 c.gens, .slice c.sa c.start.length c.sc] 45) = W0 at *
    refine (HW.out _ HCW.out).mono ?_
    rintro e w1 ⟨rfl, hb1⟩
    have HB1 := Lib.hid (HB0.out.trans (hb1.mono HB0.out.size))
    clear hb1
    go_wp2_with fail
    refine (HSP.out _).mono ?_
    rintro e w2 ⟨A, cp, rfl, hr2, hb2⟩
    have HB2 := Lib.hid (HB1.out.trans (hb2.mono HB1.out.size))
    obtain ⟨b, o, rfl, hbl, hc⟩ := rd_str hr2 (k := 3) (by rw [sorts_len]; decide)
    have hc' : w2.cell? ⟨b, o + 3, none⟩ = some (.string ⟨#[112, 104, 97, 115, 101]⟩) := hc
    clear hb2 hr2 hc
    have f0 : ¬ 9223372036854775807 < 5 + 1 + du.size := by omega
    have f1 : ¬ 9223372036854775807 < 6 + du.size := by omega
    go_wp2_with fail
    refine (HFU.out _).mono ?_
    rintro e w3 ⟨rfl, hb3⟩
    have HB3 := Lib.hid (HB2.out.trans (hb3.mono HB2.out.size))
    clear hb3
    go_wp2
    go_ret
    exact HPO.out _ _ (by rw [HV3.out, show ⟨#[112, 104, 97, 115, 101, 32]⟩ = (⟨#[112, 104, 97, 115, 101]⟩ ++ ⟨#[32]⟩ : ByteArray) by decide +kernel]) HB3.out
  · clear b1 b2 b3 b4 b5 b6 HV0 HV1 HV2 HV3 HV5 HV6 HV7 HV8 HV9 HV10
    go_enter Tryd.func13, Tryd.ntmps13
    go_wp2_with fail
    generalize w.alloc (.cells #[.int .i64 c.kind, .int .i64 c.threads, .int .i64 c.chans, .int .i64 c.cap, .int .i64 c.nodes, .int .i64 c.retire, .int .i64 c.patience, .int .i64 c.tags, .int .i64 c.seqs, .int .i64 c.gens, .slice c.sa c.start.length c.sc] 45) = W0 at *
    refine (HW.out _ HCW.out).mono ?_
    rintro e w1 ⟨rfl, hb1⟩
    have HB1 := Lib.hid (HB0.out.trans (hb1.mono HB0.out.size))
    clear hb1
    go_wp2_with fail
    refine (HSP.out _).mono ?_
    rintro e w2 ⟨A, cp, rfl, hr2, hb2⟩
    have HB2 := Lib.hid (HB1.out.trans (hb2.mono HB1.out.size))
    obtain ⟨b, o, rfl, hbl, hc⟩ := rd_str hr2 (k := 4) (by rw [sorts_len]; decide)
    have hc' : w2.cell? ⟨b, o + 4, none⟩ = some (.string ⟨#[115, 101, 113]⟩) := hc
    clear hb2 hr2 hc
    have f8 : ¬ 9223372036854775807 < 3 + 1 + zo.size := by omega
    go_wp2_with fail
    refine (HDO.out _).mono ?_
    rintro e w3 ⟨rfl, hb3⟩
    have HB3 := Lib.hid (HB2.out.trans (hb3.mono HB2.out.size))
    clear hb3
    go_upto_region 6 with (fail)
    have sa : (⟨#[115, 101, 113]⟩ ++ ⟨#[32]⟩ ++ zo : ByteArray).size ≤ 40 := by rw [ByteArray.size_append, ByteArray.size_append]; show 3 + 1 + zo.size ≤ 40; omega
    generalize hs_ : (⟨#[115, 101, 113]⟩ ++ ⟨#[32]⟩ ++ zo : ByteArray) = s_ at *
    have HS := Lib.hid hs_
    clear hs_
    have f0 : ¬ 9223372036854775807 < s_.size + 1 := by omega
    have f1 : ¬ 9223372036854775807 < s_.size + 1 + du.size := by omega
    go_wp2_with fail
    refine (HFU.out _).mono ?_
    rintro e w4 ⟨rfl, hb4⟩
    have HB4 := Lib.hid (HB3.out.trans (hb4.mono HB3.out.size))
    clear hb4
    go_wp2
    go_ret
    exact HPO.out _ _ (show _ = s_ ++ ⟨#[32]⟩ ++ du by rw [HV4.out, ← HS.out]; simp only [ByteArray.append_assoc]) HB4.out
  · clear b1 b2 b3 b4 b5 b6 HV0 HV1 HV2 HV3 HV4 HV6 HV7 HV8 HV9 HV10
    go_enter Tryd.func13, Tryd.ntmps13
    go_wp2_with fail
    generalize w.alloc (.cells #[.int .i64 c.kind, .int .i64 c.threads, .int .i64 c.chans, .int .i64 c.cap, .int .i64 c.nodes, .int .i64 c.retire, .int .i64 c.patience, .int .i64 c.tags, .int .i64 c.seqs, .int .i64 c.gens, .slice c.sa c.start.length c.sc] 45) = W0 at *
    refine (HW.out _ HCW.out).mono ?_
    rintro e w1 ⟨rfl, hb1⟩
    have HB1 := Lib.hid (HB0.out.trans (hb1.mono HB0.out.size))
    clear hb1
    go_wp2_with fail
    refine (HSP.out _).mono ?_
    rintro e w2 ⟨A, cp, rfl, hr2, hb2⟩
    have HB2 := Lib.hid (HB1.out.trans (hb2.mono HB1.out.size))
    obtain ⟨b, o, rfl, hbl, hc⟩ := rd_str hr2 (k := 5) (by rw [sorts_len]; decide)
    have hc' : w2.cell? ⟨b, o + 5, none⟩ = some (.string ⟨#[97, 114, 103, 115]⟩) := hc
    clear hb2 hr2 hc
    have f8 : ¬ 9223372036854775807 < 4 + 1 + zo.size := by omega
    go_wp2_with fail
    refine (HDO.out _).mono ?_
    rintro e w3 ⟨rfl, hb3⟩
    have HB3 := Lib.hid (HB2.out.trans (hb3.mono HB2.out.size))
    clear hb3
    go_upto_region 6 with (fail)
    have sa : (⟨#[97, 114, 103, 115]⟩ ++ ⟨#[32]⟩ ++ zo : ByteArray).size ≤ 40 := by rw [ByteArray.size_append, ByteArray.size_append]; show 4 + 1 + zo.size ≤ 40; omega
    generalize hs_ : (⟨#[97, 114, 103, 115]⟩ ++ ⟨#[32]⟩ ++ zo : ByteArray) = s_ at *
    have HS := Lib.hid hs_
    clear hs_
    have f0 : ¬ 9223372036854775807 < s_.size + 1 := by omega
    have f1 : ¬ 9223372036854775807 < s_.size + 1 + zp.size := by omega
    have f2 : ¬ 9223372036854775807 < s_.size + 1 + zp.size + 1 := by omega
    have f3 : ¬ 9223372036854775807 < s_.size + 1 + zp.size + 1 + hx.size := by omega
    go_wp2_with fail
    refine (HDP.out _).mono ?_
    rintro e w4 ⟨rfl, hb4⟩
    have HB4 := Lib.hid (HB3.out.trans (hb4.mono HB3.out.size))
    clear hb4
    go_wp2_with fail
    refine (HHX.out _).mono ?_
    rintro e w5 ⟨rfl, hb5⟩
    have HB5 := Lib.hid (HB4.out.trans (hb5.mono HB4.out.size))
    clear hb5
    go_wp2
    go_ret
    exact HPO.out _ _ (show _ = s_ ++ ⟨#[32]⟩ ++ zp ++ ⟨#[32]⟩ ++ hx by rw [HV5.out, ← HS.out]; simp only [ByteArray.append_assoc]) HB5.out
  · clear b1 b2 b3 b4 b5 b6 HV0 HV1 HV2 HV3 HV4 HV5 HV7 HV8 HV9 HV10
    go_enter Tryd.func13, Tryd.ntmps13
    go_wp2_with fail
    generalize w.alloc (.cells #[.int .i64 c.kind, .int .i64 c.threads, .int .i64 c.chans, .int .i64 c.cap, .int .i64 c.nodes, .int .i64 c.retire, .int .i64 c.patience, .int .i64 c.tags, .int .i64 c.seqs, .int .i64 c.gens, .slice c.sa c.start.length c.sc] 45) = W0 at *
    refine (HW.out _ HCW.out).mono ?_
    rintro e w1 ⟨rfl, hb1⟩
    have HB1 := Lib.hid (HB0.out.trans (hb1.mono HB0.out.size))
    clear hb1
    go_wp2_with fail
    refine (HSP.out _).mono ?_
    rintro e w2 ⟨A, cp, rfl, hr2, hb2⟩
    have HB2 := Lib.hid (HB1.out.trans (hb2.mono HB1.out.size))
    obtain ⟨b, o, rfl, hbl, hc⟩ := rd_str hr2 (k := 6) (by rw [sorts_len]; decide)
    have hc' : w2.cell? ⟨b, o + 6, none⟩ = some (.string ⟨#[103, 117, 97, 114, 100]⟩) := hc
    clear hb2 hr2 hc
    have f8 : ¬ 9223372036854775807 < 5 + 1 + zo.size := by omega
    go_wp2_with fail
    refine (HDO.out _).mono ?_
    rintro e w3 ⟨rfl, hb3⟩
    have HB3 := Lib.hid (HB2.out.trans (hb3.mono HB2.out.size))
    clear hb3
    go_upto_region 6 with (fail)
    have sa : (⟨#[103, 117, 97, 114, 100]⟩ ++ ⟨#[32]⟩ ++ zo : ByteArray).size ≤ 40 := by rw [ByteArray.size_append, ByteArray.size_append]; show 5 + 1 + zo.size ≤ 40; omega
    generalize hs_ : (⟨#[103, 117, 97, 114, 100]⟩ ++ ⟨#[32]⟩ ++ zo : ByteArray) = s_ at *
    have HS := Lib.hid hs_
    clear hs_
    have f0 : ¬ 9223372036854775807 < s_.size + 1 := by omega
    have f1 : ¬ 9223372036854775807 < s_.size + 1 + nm.size := by omega
    go_wp2_with fail
    refine (HNM.out _).mono ?_
    rintro e w4 ⟨rfl, hb4⟩
    have HB4 := Lib.hid (HB3.out.trans (hb4.mono HB3.out.size))
    clear hb4
    go_wp2
    go_ret
    exact HPO.out _ _ (show _ = s_ ++ ⟨#[32]⟩ ++ nm by rw [HV6.out, ← HS.out]; simp only [ByteArray.append_assoc]) HB4.out
  · clear b1 b2 b3 b4 b5 b6 HV0 HV1 HV2 HV3 HV4 HV5 HV6 HV8 HV9 HV10
    have b0 : ((u : Int) == 0) = true := by simp [h0]
    have HI := Lib.hid (show iu = ⟨#[111, 117, 116]⟩ by rw [HIU.out, if_pos h0])
    clear h0
    go_enter Tryd.func13, Tryd.ntmps13
    go_wp2_with fail
    generalize w.alloc (.cells #[.int .i64 c.kind, .int .i64 c.threads, .int .i64 c.chans, .int .i64 c.cap, .int .i64 c.nodes, .int .i64 c.retire, .int .i64 c.patience, .int .i64 c.tags, .int .i64 c.seqs, .int .i64 c.gens, .slice c.sa c.start.length c.sc] 45) = W0 at *
    refine (HW.out _ HCW.out).mono ?_
    rintro e w1 ⟨rfl, hb1⟩
    have HB1 := Lib.hid (HB0.out.trans (hb1.mono HB0.out.size))
    clear hb1
    go_wp2_with fail
    refine (HSP.out _).mono ?_
    rintro e w2 ⟨A, cp, rfl, hr2, hb2⟩
    have HB2 := Lib.hid (HB1.out.trans (hb2.mono HB1.out.size))
    obtain ⟨b, o, rfl, hbl, hc⟩ := rd_str hr2 (k := 7) (by rw [sorts_len]; decide)
    have hc' : w2.cell? ⟨b, o + 7, none⟩ = some (.string ⟨#[105, 110]⟩) := hc
    clear hb2 hr2 hc
    have f8 : ¬ 9223372036854775807 < 2 + 1 + zo.size := by omega
    go_wp2_with fail
    refine (HDO.out _).mono ?_
    rintro e w3 ⟨rfl, hb3⟩
    have HB3 := Lib.hid (HB2.out.trans (hb3.mono HB2.out.size))
    clear hb3
    go_upto_region 6 with (fail)
    have sa : (⟨#[105, 110]⟩ ++ ⟨#[32]⟩ ++ zo : ByteArray).size ≤ 40 := by rw [ByteArray.size_append, ByteArray.size_append]; show 2 + 1 + zo.size ≤ 40; omega
    generalize hs_ : (⟨#[105, 110]⟩ ++ ⟨#[32]⟩ ++ zo : ByteArray) = s_ at *
    have HS := Lib.hid hs_
    clear hs_
    have f0 : ¬ 9223372036854775807 < s_.size + 4 := by omega
    go_wp2
    go_ret
    exact HPO.out _ _ (show _ = s_ ++ ⟨#[32, 111, 117, 116]⟩ by rw [HV7.out, ← HS.out, HI.out, show (⟨#[32, 111, 117, 116]⟩ : ByteArray) = ⟨#[32]⟩ ++ ⟨#[111, 117, 116]⟩ by decide +kernel]; simp only [ByteArray.append_assoc]) HB3.out
  · clear b1 b2 b3 b4 b5 b6 HV0 HV1 HV2 HV3 HV4 HV5 HV6 HV8 HV9 HV10
    have b0 : ((u : Int) == 0) = false := by simp [h0]
    have HI := Lib.hid (show iu = dh by rw [HIU.out, if_neg h0])
    clear h0
    go_enter Tryd.func13, Tryd.ntmps13
    go_wp2_with fail
    generalize w.alloc (.cells #[.int .i64 c.kind, .int .i64 c.threads, .int .i64 c.chans, .int .i64 c.cap, .int .i64 c.nodes, .int .i64 c.retire, .int .i64 c.patience, .int .i64 c.tags, .int .i64 c.seqs, .int .i64 c.gens, .slice c.sa c.start.length c.sc] 45) = W0 at *
    refine (HW.out _ HCW.out).mono ?_
    rintro e w1 ⟨rfl, hb1⟩
    have HB1 := Lib.hid (HB0.out.trans (hb1.mono HB0.out.size))
    clear hb1
    go_wp2_with fail
    refine (HSP.out _).mono ?_
    rintro e w2 ⟨A, cp, rfl, hr2, hb2⟩
    have HB2 := Lib.hid (HB1.out.trans (hb2.mono HB1.out.size))
    obtain ⟨b, o, rfl, hbl, hc⟩ := rd_str hr2 (k := 7) (by rw [sorts_len]; decide)
    have hc' : w2.cell? ⟨b, o + 7, none⟩ = some (.string ⟨#[105, 110]⟩) := hc
    clear hb2 hr2 hc
    have f8 : ¬ 9223372036854775807 < 2 + 1 + zo.size := by omega
    go_wp2_with fail
    refine (HDO.out _).mono ?_
    rintro e w3 ⟨rfl, hb3⟩
    have HB3 := Lib.hid (HB2.out.trans (hb3.mono HB2.out.size))
    clear hb3
    go_upto_region 6 with (fail)
    have sa : (⟨#[105, 110]⟩ ++ ⟨#[32]⟩ ++ zo : ByteArray).size ≤ 40 := by rw [ByteArray.size_append, ByteArray.size_append]; show 2 + 1 + zo.size ≤ 40; omega
    generalize hs_ : (⟨#[105, 110]⟩ ++ ⟨#[32]⟩ ++ zo : ByteArray) = s_ at *
    have HS := Lib.hid hs_
    clear hs_
    have f0 : ¬ 9223372036854775807 < s_.size + 1 := by omega
    have f1 : ¬ 9223372036854775807 < s_.size + 1 + dh.size := by omega
    go_wp2_with fail
    refine (HFH.out _).mono ?_
    rintro e w4 ⟨rfl, hb4⟩
    have HB4 := Lib.hid (HB3.out.trans (hb4.mono HB3.out.size))
    clear hb4
    go_wp2
    go_ret
    exact HPO.out _ _ (show _ = s_ ++ ⟨#[32]⟩ ++ dh by rw [HV7.out, ← HS.out, HI.out]; simp only [ByteArray.append_assoc]) HB4.out
  · clear b1 b2 b3 b4 b5 b6 HV0 HV1 HV2 HV3 HV4 HV5 HV6 HV7 HV9 HV10
    go_enter Tryd.func13, Tryd.ntmps13
    go_wp2_with fail
    generalize w.alloc (.cells #[.int .i64 c.kind, .int .i64 c.threads, .int .i64 c.chans, .int .i64 c.cap, .int .i64 c.nodes, .int .i64 c.retire, .int .i64 c.patience, .int .i64 c.tags, .int .i64 c.seqs, .int .i64 c.gens, .slice c.sa c.start.length c.sc] 45) = W0 at *
    refine (HW.out _ HCW.out).mono ?_
    rintro e w1 ⟨rfl, hb1⟩
    have HB1 := Lib.hid (HB0.out.trans (hb1.mono HB0.out.size))
    clear hb1
    go_wp2_with fail
    refine (HSP.out _).mono ?_
    rintro e w2 ⟨A, cp, rfl, hr2, hb2⟩
    have HB2 := Lib.hid (HB1.out.trans (hb2.mono HB1.out.size))
    obtain ⟨b, o, rfl, hbl, hc⟩ := rd_str hr2 (k := 8) (by rw [sorts_len]; decide)
    have hc' : w2.cell? ⟨b, o + 8, none⟩ = some (.string ⟨#[109, 97, 105, 108]⟩) := hc
    clear hb2 hr2 hc
    have f8 : ¬ 9223372036854775807 < 4 + 1 + zo.size := by omega
    go_wp2_with fail
    refine (HDO.out _).mono ?_
    rintro e w3 ⟨rfl, hb3⟩
    have HB3 := Lib.hid (HB2.out.trans (hb3.mono HB2.out.size))
    clear hb3
    go_upto_region 6 with (fail)
    have sa : (⟨#[109, 97, 105, 108]⟩ ++ ⟨#[32]⟩ ++ zo : ByteArray).size ≤ 40 := by rw [ByteArray.size_append, ByteArray.size_append]; show 4 + 1 + zo.size ≤ 40; omega
    generalize hs_ : (⟨#[109, 97, 105, 108]⟩ ++ ⟨#[32]⟩ ++ zo : ByteArray) = s_ at *
    have HS := Lib.hid hs_
    clear hs_
    have f0 : ¬ 9223372036854775807 < s_.size + 1 := by omega
    have f1 : ¬ 9223372036854775807 < s_.size + 1 + rs.size := by omega
    go_wp2_with fail
    refine (HRR.out _).mono ?_
    rintro e w4 ⟨rfl, hb4⟩
    have HB4 := Lib.hid (HB3.out.trans (hb4.mono HB3.out.size))
    clear hb4
    go_wp2_with fail
    refine (HRS.out _).mono ?_
    rintro e w5 ⟨rfl, hb5⟩
    have HB5 := Lib.hid (HB4.out.trans (hb5.mono HB4.out.size))
    clear hb5
    go_wp2
    go_ret
    exact HPO.out _ _ (show _ = s_ ++ ⟨#[32]⟩ ++ rs by rw [HV8.out, ← HS.out]; simp only [ByteArray.append_assoc]) HB5.out
  · clear b1 b2 b3 b4 b5 b6 HV0 HV1 HV2 HV3 HV4 HV5 HV6 HV7 HV8 HV10
    go_enter Tryd.func13, Tryd.ntmps13
    go_wp2_with fail
    generalize w.alloc (.cells #[.int .i64 c.kind, .int .i64 c.threads, .int .i64 c.chans, .int .i64 c.cap, .int .i64 c.nodes, .int .i64 c.retire, .int .i64 c.patience, .int .i64 c.tags, .int .i64 c.seqs, .int .i64 c.gens, .slice c.sa c.start.length c.sc] 45) = W0 at *
    refine (HW.out _ HCW.out).mono ?_
    rintro e w1 ⟨rfl, hb1⟩
    have HB1 := Lib.hid (HB0.out.trans (hb1.mono HB0.out.size))
    clear hb1
    go_wp2_with fail
    refine (HSP.out _).mono ?_
    rintro e w2 ⟨A, cp, rfl, hr2, hb2⟩
    have HB2 := Lib.hid (HB1.out.trans (hb2.mono HB1.out.size))
    obtain ⟨b, o, rfl, hbl, hc⟩ := rd_str hr2 (k := 9) (by rw [sorts_len]; decide)
    have hc' : w2.cell? ⟨b, o + 9, none⟩ = some (.string ⟨#[116, 97, 103]⟩) := hc
    clear hb2 hr2 hc
    have f8 : ¬ 9223372036854775807 < 3 + 1 + zo.size := by omega
    go_wp2_with fail
    refine (HDO.out _).mono ?_
    rintro e w3 ⟨rfl, hb3⟩
    have HB3 := Lib.hid (HB2.out.trans (hb3.mono HB2.out.size))
    clear hb3
    go_upto_region 6 with (fail)
    have sa : (⟨#[116, 97, 103]⟩ ++ ⟨#[32]⟩ ++ zo : ByteArray).size ≤ 40 := by rw [ByteArray.size_append, ByteArray.size_append]; show 3 + 1 + zo.size ≤ 40; omega
    generalize hs_ : (⟨#[116, 97, 103]⟩ ++ ⟨#[32]⟩ ++ zo : ByteArray) = s_ at *
    have HS := Lib.hid hs_
    clear hs_
    have f0 : ¬ 9223372036854775807 < s_.size + 1 := by omega
    have f1 : ¬ 9223372036854775807 < s_.size + 1 + du.size := by omega
    go_wp2_with fail
    refine (HFU.out _).mono ?_
    rintro e w4 ⟨rfl, hb4⟩
    have HB4 := Lib.hid (HB3.out.trans (hb4.mono HB3.out.size))
    clear hb4
    go_wp2
    go_ret
    exact HPO.out _ _ (show _ = s_ ++ ⟨#[32]⟩ ++ du by rw [HV9.out, ← HS.out]; simp only [ByteArray.append_assoc]) HB4.out
  · clear b1 b2 b3 b4 b5 b6 HV0 HV1 HV2 HV3 HV4 HV5 HV6 HV7 HV8 HV9
    go_enter Tryd.func13, Tryd.ntmps13
    go_wp2_with fail
    generalize w.alloc (.cells #[.int .i64 c.kind, .int .i64 c.threads, .int .i64 c.chans, .int .i64 c.cap, .int .i64 c.nodes, .int .i64 c.retire, .int .i64 c.patience, .int .i64 c.tags, .int .i64 c.seqs, .int .i64 c.gens, .slice c.sa c.start.length c.sc] 45) = W0 at *
    refine (HW.out _ HCW.out).mono ?_
    rintro e w1 ⟨rfl, hb1⟩
    have HB1 := Lib.hid (HB0.out.trans (hb1.mono HB0.out.size))
    clear hb1
    go_wp2_with fail
    refine (HSP.out _).mono ?_
    rintro e w2 ⟨A, cp, rfl, hr2, hb2⟩
    have HB2 := Lib.hid (HB1.out.trans (hb2.mono HB1.out.size))
    obtain ⟨b, o, rfl, hbl, hc⟩ := rd_str hr2 (k := 10) (by rw [sorts_len]; decide)
    have hc' : w2.cell? ⟨b, o + 10, none⟩ = some (.string ⟨#[119, 111, 114, 100]⟩) := hc
    clear hb2 hr2 hc
    have f8 : ¬ 9223372036854775807 < 4 + 1 + zo.size := by omega
    go_wp2_with fail
    refine (HDO.out _).mono ?_
    rintro e w3 ⟨rfl, hb3⟩
    have HB3 := Lib.hid (HB2.out.trans (hb3.mono HB2.out.size))
    clear hb3
    go_upto_region 6 with (fail)
    have sa : (⟨#[119, 111, 114, 100]⟩ ++ ⟨#[32]⟩ ++ zo : ByteArray).size ≤ 40 := by rw [ByteArray.size_append, ByteArray.size_append]; show 4 + 1 + zo.size ≤ 40; omega
    generalize hs_ : (⟨#[119, 111, 114, 100]⟩ ++ ⟨#[32]⟩ ++ zo : ByteArray) = s_ at *
    have HS := Lib.hid hs_
    clear hs_
    have f0 : ¬ 9223372036854775807 < s_.size + 1 := by omega
    have f1 : ¬ 9223372036854775807 < s_.size + 1 + zp.size := by omega
    have f2 : ¬ 9223372036854775807 < s_.size + 1 + zp.size + 1 := by omega
    have f3 : ¬ 9223372036854775807 < s_.size + 1 + zp.size + 1 + hx.size := by omega
    go_wp2_with fail
    refine (HDP.out _).mono ?_
    rintro e w4 ⟨rfl, hb4⟩
    have HB4 := Lib.hid (HB3.out.trans (hb4.mono HB3.out.size))
    clear hb4
    go_wp2_with fail
    refine (HHX.out _).mono ?_
    rintro e w5 ⟨rfl, hb5⟩
    have HB5 := Lib.hid (HB4.out.trans (hb5.mono HB4.out.size))
    clear hb5
    go_wp2
    go_ret
    exact HPO.out _ _ (show _ = s_ ++ ⟨#[32]⟩ ++ zp ++ ⟨#[32]⟩ ++ hx by rw [HV10.out, ← HS.out]; simp only [ByteArray.append_assoc]) HB5.out

end Go.Proofs.YtknlhkkpheahlaaDoor
