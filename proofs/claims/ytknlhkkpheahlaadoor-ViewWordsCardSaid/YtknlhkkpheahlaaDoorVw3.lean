/- view.Word, walked: a word at an address, as a line. -/
import Derived.Test.YtknlhkkpheahlaaDoorVw2
import Derived.Test.YtknlhkkpheahlaaDoorRWhat
namespace Go.Proofs.YtknlhkkpheahlaaDoor
open Go.RowKit Go.Sort

def wordS (s of pl : Int) (u : Nat) : ByteArray :=
  if s = 1 then ⟨#[114, 111, 111, 116, 32]⟩ ++ nameWS u
  else if s = 2 then ⟨#[101, 112, 111, 99, 104, 32]⟩ ++ udecS u
  else if s = 3 then ⟨#[112, 104, 97, 115, 101, 32]⟩ ++ udecS u
  else if s = 4 then ⟨#[115, 101, 113]⟩ ++ (⟨#[32]⟩ ++ itoaS of ++ ⟨#[32]⟩) ++ udecS u
  else if s = 5 then ⟨#[97, 114, 103, 115]⟩ ++ (⟨#[32]⟩ ++ itoaS of ++ ⟨#[32]⟩) ++ itoaS pl ++ ⟨#[32]⟩ ++ hexS u
  else if s = 6 then ⟨#[103, 117, 97, 114, 100]⟩ ++ (⟨#[32]⟩ ++ itoaS of ++ ⟨#[32]⟩) ++ nameWS u
  else if s = 7 then ⟨#[105, 110]⟩ ++ (⟨#[32]⟩ ++ itoaS of ++ ⟨#[32]⟩) ++ insideS u
  else if s = 8 then ⟨#[109, 97, 105, 108]⟩ ++ (⟨#[32]⟩ ++ itoaS of ++ ⟨#[32]⟩) ++ resS (rrOf u)
  else if s = 9 then ⟨#[116, 97, 103]⟩ ++ (⟨#[32]⟩ ++ itoaS of ++ ⟨#[32]⟩) ++ udecS u
  else if s = 10 then ⟨#[119, 111, 114, 100]⟩ ++ (⟨#[32]⟩ ++ itoaS of ++ ⟨#[32]⟩) ++ itoaS pl ++ ⟨#[32]⟩ ++ hexS u
  else ⟨#[110, 111, 116, 104, 105, 110, 103]⟩
theorem wordS_0 (of pl : Int) (u : Nat) : wordS 0 of pl u = ⟨#[110, 111, 116, 104, 105, 110, 103]⟩ := by simp [wordS]
theorem wordS_1 (of pl : Int) (u : Nat) : wordS 1 of pl u = ⟨#[114, 111, 111, 116, 32]⟩ ++ nameWS u := by unfold wordS; rw [if_pos rfl]
theorem wordS_2 (of pl : Int) (u : Nat) : wordS 2 of pl u = ⟨#[101, 112, 111, 99, 104, 32]⟩ ++ udecS u := by unfold wordS; rw [if_neg (by decide)]; rw [if_pos rfl]
theorem wordS_3 (of pl : Int) (u : Nat) : wordS 3 of pl u = ⟨#[112, 104, 97, 115, 101, 32]⟩ ++ udecS u := by unfold wordS; rw [if_neg (by decide)]; rw [if_neg (by decide)]; rw [if_pos rfl]
theorem wordS_4 (of pl : Int) (u : Nat) : wordS 4 of pl u = ⟨#[115, 101, 113]⟩ ++ (⟨#[32]⟩ ++ itoaS of ++ ⟨#[32]⟩) ++ udecS u := by unfold wordS; rw [if_neg (by decide)]; rw [if_neg (by decide)]; rw [if_neg (by decide)]; rw [if_pos rfl]
theorem wordS_5 (of pl : Int) (u : Nat) : wordS 5 of pl u = ⟨#[97, 114, 103, 115]⟩ ++ (⟨#[32]⟩ ++ itoaS of ++ ⟨#[32]⟩) ++ itoaS pl ++ ⟨#[32]⟩ ++ hexS u := by unfold wordS; rw [if_neg (by decide)]; rw [if_neg (by decide)]; rw [if_neg (by decide)]; rw [if_neg (by decide)]; rw [if_pos rfl]
theorem wordS_6 (of pl : Int) (u : Nat) : wordS 6 of pl u = ⟨#[103, 117, 97, 114, 100]⟩ ++ (⟨#[32]⟩ ++ itoaS of ++ ⟨#[32]⟩) ++ nameWS u := by unfold wordS; rw [if_neg (by decide)]; rw [if_neg (by decide)]; rw [if_neg (by decide)]; rw [if_neg (by decide)]; rw [if_neg (by decide)]; rw [if_pos rfl]
theorem wordS_7 (of pl : Int) (u : Nat) : wordS 7 of pl u = ⟨#[105, 110]⟩ ++ (⟨#[32]⟩ ++ itoaS of ++ ⟨#[32]⟩) ++ insideS u := by unfold wordS; rw [if_neg (by decide)]; rw [if_neg (by decide)]; rw [if_neg (by decide)]; rw [if_neg (by decide)]; rw [if_neg (by decide)]; rw [if_neg (by decide)]; rw [if_pos rfl]
theorem wordS_8 (of pl : Int) (u : Nat) : wordS 8 of pl u = ⟨#[109, 97, 105, 108]⟩ ++ (⟨#[32]⟩ ++ itoaS of ++ ⟨#[32]⟩) ++ resS (rrOf u) := by unfold wordS; rw [if_neg (by decide)]; rw [if_neg (by decide)]; rw [if_neg (by decide)]; rw [if_neg (by decide)]; rw [if_neg (by decide)]; rw [if_neg (by decide)]; rw [if_neg (by decide)]; rw [if_pos rfl]
theorem wordS_9 (of pl : Int) (u : Nat) : wordS 9 of pl u = ⟨#[116, 97, 103]⟩ ++ (⟨#[32]⟩ ++ itoaS of ++ ⟨#[32]⟩) ++ udecS u := by unfold wordS; rw [if_neg (by decide)]; rw [if_neg (by decide)]; rw [if_neg (by decide)]; rw [if_neg (by decide)]; rw [if_neg (by decide)]; rw [if_neg (by decide)]; rw [if_neg (by decide)]; rw [if_neg (by decide)]; rw [if_pos rfl]
theorem wordS_10 (of pl : Int) (u : Nat) : wordS 10 of pl u = ⟨#[119, 111, 114, 100]⟩ ++ (⟨#[32]⟩ ++ itoaS of ++ ⟨#[32]⟩) ++ itoaS pl ++ ⟨#[32]⟩ ++ hexS u := by unfold wordS; rw [if_neg (by decide)]; rw [if_neg (by decide)]; rw [if_neg (by decide)]; rw [if_neg (by decide)]; rw [if_neg (by decide)]; rw [if_neg (by decide)]; rw [if_neg (by decide)]; rw [if_neg (by decide)]; rw [if_neg (by decide)]; rw [if_pos rfl]

theorem what_b {c : Cfg} {a : Int} : 0 ≤ (whatS c a).1 ∧ (whatS c a).1 ≤ 10 ∧ 0 ≤ (whatS c a).2.1 ∧ (whatS c a).2.1 ≤ 4600000 ∧ -1 ≤ (whatS c a).2.2 ∧ (whatS c a).2.2 ≤ 4600000 := by
  by_cases h0 : a < 0 ∨ totalS c ≤ a
  · rw [what_none h0]; simp
  have hk := chk_of_total (c := c) (a := a) (by omega) (by omega)
  have hb := total_b hk
  obtain ⟨g1, g2, _⟩ := chk_kind hk
  obtain ⟨s1, s2⟩ := size_b hk
  unfold whatS
  rw [if_neg h0]
  repeat' split
  all_goals simp only
  all_goals try omega
  · have h1 := Int.ediv_nonneg (show 0 ≤ a - (3 + c.threads * 9) by omega) (show 0 ≤ 1 + sizeS c by omega)
    have h2 := Int.ediv_le_self (1 + sizeS c) (show 0 ≤ a - (3 + c.threads * 9) by omega)
    omega
  · have h1 := Int.ediv_nonneg (show 0 ≤ a - (3 + c.threads * 9) by omega) (show 0 ≤ 1 + sizeS c by omega)
    have h2 := Int.ediv_le_self (1 + sizeS c) (show 0 ≤ a - (3 + c.threads * 9) by omega)
    have h3 := Int.emod_nonneg (a - (3 + c.threads * 9)) (show 1 + sizeS c ≠ 0 by omega)
    have h4 := Int.emod_lt_of_pos (a - (3 + c.threads * 9)) (show 0 < 1 + sizeS c by omega)
    omega

theorem insideS_size (u : Nat) (hu : u < 18446744073709551616) : (insideS u).size ≤ 20 := by
  unfold insideS
  split
  · decide
  · exact udecS_size _ (by omega)
theorem rr_in (u : Nat) (hu : u < 18446744073709551616) : In64 (rrOf u).seq ∧ In64 (rrOf u).value ∧ In64 (rrOf u).case_ := by
  unfold rrOf In64; simp only; omega

set_option maxHeartbeats 16000000 in
set_option maxRecDepth 100000 in
theorem vWord_any (c : Cfg) (a : Int) (u : Nat) (w : World) (hcf : CfgIn w c) (hu : u < 18446744073709551616) (ht : TabT w) (hz : Tz16 w) :
    Calls Tryd.prog 12 #[cfgV c, .int .i64 a, .int .u64 u] w fun e w' => e = .returned (.string (wordS (whatS c a).1 (whatS c a).2.1 (whatS c a).2.2 u)) ∧ Below w.heap.size w w' := by
  obtain ⟨b1, b2, b3, b4, b5, b6⟩ := what_b (c := c) (a := a)
  have HC := Lib.hid hcf
  have HB0 := Lib.hid ((Below.refl w.heap.size w).alloc (Nat.le_refl _) (.cells #[.int .i64 c.kind, .int .i64 c.threads, .int .i64 c.chans, .int .i64 c.cap, .int .i64 c.nodes, .int .i64 c.retire, .int .i64 c.patience, .int .i64 c.tags, .int .i64 c.seqs, .int .i64 c.gens, .slice c.sa c.start.length c.sc] 45))
  have HCW := Lib.hid (HC.out.below HB0.out)
  have HX := Lib.hid (BoxC.new w c)
  have HW := Lib.hid (fun W h => What_any c a W h)
  have HWE : RowKit.Hid (whatS c a = whatS c a) := Lib.hid rfl
  generalize hp : whatS c a = p at *
  obtain ⟨s, of, pl⟩ := p
  simp only at b1 b2 b3 b4 b5 b6 HW
  have HP := Lib.hid hp
  have ho : In64 of := ⟨by omega, by omega⟩
  have hpl : In64 pl := ⟨by omega, by omega⟩
  have HDO := Lib.hid (fun W h => dec_any of W ho h)
  have HDP := Lib.hid (fun W h => dec_any pl W hpl h)
  have HNM := Lib.hid (fun W h h' => name_any' u W hu h h')
  have HFU := Lib.hid (fun W h => FormatUint10 u hu W h)
  have HHX := Lib.hid (fun W h => vhx_any u W hu h)
  have HIN := Lib.hid (fun W h => inside_any u W hu h)
  have HRR := Lib.hid (fun W => ReadResult_any u hu W)
  have HRS := Lib.hid (fun W h => vRes_any (rrOf u) W (rr_in u hu).1 (rr_in u hu).2.1 (rr_in u hu).2.2 h)
  have HT := Lib.hid ht
  have HZ := Lib.hid hz
  clear ht hz
  have so := itoaS_size ho
  have sp := itoaS_size hpl
  have sn := nameWS_size u hu
  have sd := udecS_size u hu
  have sh := hexS_size u hu
  have si := insideS_size u hu
  have sr := resS_size (rr_in u hu).1 (rr_in u hu).2.1 (rr_in u hu).2.2
  have HV0 := Lib.hid (wordS_0 of pl u)
  have HV1 := Lib.hid (wordS_1 of pl u)
  have HV2 := Lib.hid (wordS_2 of pl u)
  have HV3 := Lib.hid (wordS_3 of pl u)
  have HV4 := Lib.hid (wordS_4 of pl u)
  have HV5 := Lib.hid (wordS_5 of pl u)
  have HV6 := Lib.hid (wordS_6 of pl u)
  have HV7 := Lib.hid (wordS_7 of pl u)
  have HV8 := Lib.hid (wordS_8 of pl u)
  have HV9 := Lib.hid (wordS_9 of pl u)
  have HV10 := Lib.hid (wordS_10 of pl u)
  have HPO : RowKit.Hid (∀ W' R, wordS s of pl u = R → Below w.heap.size w W' → (Ending.returned (.string R) : Ending) = .returned (.string (wordS s of pl u)) ∧ Below w.heap.size w W') := Lib.hid (fun W' R h hb => ⟨by rw [← h], hb⟩)
  clear hcf ho hpl hp HP HWE
  generalize hrr : rrOf u = rr at *
  clear hrr
  obtain ⟨r1, r2, r3, r4⟩ := rr
  unfold rsV at HRR HRS
  simp only at HRR HRS
  generalize itoaS of = zo at *
  generalize itoaS pl = zp at *
  generalize nameWS u = nm at *
  generalize udecS u = du at *
  generalize hexS u = hx at *
  generalize insideS u = iu at *
  generalize hrs : resS ⟨r1, r2, r3, r4⟩ = rs at *
  clear hrs hu
  have e1 : ¬ 9223372036854775807 < 1 + zo.size := by omega
  have e2 : ¬ 9223372036854775807 < 1 + zo.size + 1 := by omega
  unfold cfgV
  unfold cfgV at HW
  rcases (show s = 0 ∨ s = 1 ∨ s = 2 ∨ s = 3 ∨ s = 4 ∨ s = 5 ∨ s = 6 ∨ s = 7 ∨ s = 8 ∨ s = 9 ∨ s = 10 by omega) with rfl | rfl | rfl | rfl | rfl | rfl | rfl | rfl | rfl | rfl | rfl
  · clear b1 b2 b3 b4 b5 b6 HV1 HV2 HV3 HV4 HV5 HV6 HV7 HV8 HV9 HV10
    go_enter Tryd.func12, Tryd.ntmps12
    go_wp2_with fail
    generalize w.alloc (.cells #[.int .i64 c.kind, .int .i64 c.threads, .int .i64 c.chans, .int .i64 c.cap, .int .i64 c.nodes, .int .i64 c.retire, .int .i64 c.patience, .int .i64 c.tags, .int .i64 c.seqs, .int .i64 c.gens, .slice c.sa c.start.length c.sc] 45) = W0 at *
    refine (HW.out _ HCW.out).mono ?_
    rintro e w1 ⟨rfl, hb1⟩
    have HB1 := Lib.hid (HB0.out.trans (hb1.mono HB0.out.size))
    clear hb1
    go_wp2_with fail
    refine (HDO.out _ (HT.out.below HB1.out)).mono ?_
    rintro e w2 ⟨rfl, hb2⟩
    have HB2 := Lib.hid (HB1.out.trans (hb2.mono HB1.out.size))
    clear hb2
    go_wp2
    go_ret
    exact HPO.out _ _ (by rw [HV0.out]) HB2.out
  · clear b1 b2 b3 b4 b5 b6 HV0 HV2 HV3 HV4 HV5 HV6 HV7 HV8 HV9 HV10
    go_enter Tryd.func12, Tryd.ntmps12
    go_wp2_with fail
    generalize w.alloc (.cells #[.int .i64 c.kind, .int .i64 c.threads, .int .i64 c.chans, .int .i64 c.cap, .int .i64 c.nodes, .int .i64 c.retire, .int .i64 c.patience, .int .i64 c.tags, .int .i64 c.seqs, .int .i64 c.gens, .slice c.sa c.start.length c.sc] 45) = W0 at *
    refine (HW.out _ HCW.out).mono ?_
    rintro e w1 ⟨rfl, hb1⟩
    have HB1 := Lib.hid (HB0.out.trans (hb1.mono HB0.out.size))
    clear hb1
    go_wp2_with fail
    refine (HDO.out _ (HT.out.below HB1.out)).mono ?_
    rintro e w2 ⟨rfl, hb2⟩
    have HB2 := Lib.hid (HB1.out.trans (hb2.mono HB1.out.size))
    clear hb2
    have f0 : ¬ 9223372036854775807 < 5 + nm.size := by omega
    go_wp2_with fail
    refine (HNM.out _ (HT.out.below HB2.out) (HZ.out.below HB2.out)).mono ?_
    rintro e w3 ⟨rfl, hb3⟩
    have HB3 := Lib.hid (HB2.out.trans (hb3.mono HB2.out.size))
    clear hb3
    go_wp2
    go_ret
    exact HPO.out _ _ (by rw [HV1.out]) HB3.out
  · clear b1 b2 b3 b4 b5 b6 HV0 HV1 HV3 HV4 HV5 HV6 HV7 HV8 HV9 HV10
    go_enter Tryd.func12, Tryd.ntmps12
    go_wp2_with fail
    generalize w.alloc (.cells #[.int .i64 c.kind, .int .i64 c.threads, .int .i64 c.chans, .int .i64 c.cap, .int .i64 c.nodes, .int .i64 c.retire, .int .i64 c.patience, .int .i64 c.tags, .int .i64 c.seqs, .int .i64 c.gens, .slice c.sa c.start.length c.sc] 45) = W0 at *
    refine (HW.out _ HCW.out).mono ?_
    rintro e w1 ⟨rfl, hb1⟩
    have HB1 := Lib.hid (HB0.out.trans (hb1.mono HB0.out.size))
    clear hb1
    go_wp2_with fail
    refine (HDO.out _ (HT.out.below HB1.out)).mono ?_
    rintro e w2 ⟨rfl, hb2⟩
    have HB2 := Lib.hid (HB1.out.trans (hb2.mono HB1.out.size))
    clear hb2
    have f0 : ¬ 9223372036854775807 < 6 + du.size := by omega
    go_wp2_with fail
    refine (HFU.out _ (HT.out.below HB2.out)).mono ?_
    rintro e w3 ⟨rfl, hb3⟩
    have HB3 := Lib.hid (HB2.out.trans (hb3.mono HB2.out.size))
    clear hb3
    go_wp2
    go_ret
    exact HPO.out _ _ (by rw [HV2.out]) HB3.out
  · clear b1 b2 b3 b4 b5 b6 HV0 HV1 HV2 HV4 HV5 HV6 HV7 HV8 HV9 HV10
    go_enter Tryd.func12, Tryd.ntmps12
    go_wp2_with fail
    generalize w.alloc (.cells #[.int .i64 c.kind, .int .i64 c.threads, .int .i64 c.chans, .int .i64 c.cap, .int .i64 c.nodes, .int .i64 c.retire, .int .i64 c.patience, .int .i64 c.tags, .int .i64 c.seqs, .int .i64 c.gens, .slice c.sa c.start.length c.sc] 45) = W0 at *
    refine (HW.out _ HCW.out).mono ?_
    rintro e w1 ⟨rfl, hb1⟩
    have HB1 := Lib.hid (HB0.out.trans (hb1.mono HB0.out.size))
    clear hb1
    go_wp2_with fail
    refine (HDO.out _ (HT.out.below HB1.out)).mono ?_
    rintro e w2 ⟨rfl, hb2⟩
    have HB2 := Lib.hid (HB1.out.trans (hb2.mono HB1.out.size))
    clear hb2
    have f0 : ¬ 9223372036854775807 < 6 + du.size := by omega
    go_wp2_with fail
    refine (HFU.out _ (HT.out.below HB2.out)).mono ?_
    rintro e w3 ⟨rfl, hb3⟩
    have HB3 := Lib.hid (HB2.out.trans (hb3.mono HB2.out.size))
    clear hb3
    go_wp2
    go_ret
    exact HPO.out _ _ (by rw [HV3.out]) HB3.out
  · clear b1 b2 b3 b4 b5 b6 HV0 HV1 HV2 HV3 HV5 HV6 HV7 HV8 HV9 HV10
    go_enter Tryd.func12, Tryd.ntmps12
    go_wp2_with fail
    generalize w.alloc (.cells #[.int .i64 c.kind, .int .i64 c.threads, .int .i64 c.chans, .int .i64 c.cap, .int .i64 c.nodes, .int .i64 c.retire, .int .i64 c.patience, .int .i64 c.tags, .int .i64 c.seqs, .int .i64 c.gens, .slice c.sa c.start.length c.sc] 45) = W0 at *
    refine (HW.out _ HCW.out).mono ?_
    rintro e w1 ⟨rfl, hb1⟩
    have HB1 := Lib.hid (HB0.out.trans (hb1.mono HB0.out.size))
    clear hb1
    go_wp2_with fail
    refine (HDO.out _ (HT.out.below HB1.out)).mono ?_
    rintro e w2 ⟨rfl, hb2⟩
    have HB2 := Lib.hid (HB1.out.trans (hb2.mono HB1.out.size))
    clear hb2
    go_upto_region 3 with (fail)
    have sa : (⟨#[32]⟩ ++ zo ++ ⟨#[32]⟩ : ByteArray).size ≤ 23 := by rw [ByteArray.size_append, ByteArray.size_append]; show 1 + zo.size + 1 ≤ 23; omega
    generalize (⟨#[32]⟩ ++ zo ++ ⟨#[32]⟩ : ByteArray) = at_ at *
    have f0 : ¬ 9223372036854775807 < 3 + at_.size := by omega
    have f1 : ¬ 9223372036854775807 < 3 + at_.size + du.size := by omega
    go_wp2_with fail
    refine (HFU.out _ (HT.out.below HB2.out)).mono ?_
    rintro e w3 ⟨rfl, hb3⟩
    have HB3 := Lib.hid (HB2.out.trans (hb3.mono HB2.out.size))
    clear hb3
    go_wp2
    go_ret
    exact HPO.out _ _ (by rw [HV4.out]) HB3.out
  · clear b1 b2 b3 b4 b5 b6 HV0 HV1 HV2 HV3 HV4 HV6 HV7 HV8 HV9 HV10
    go_enter Tryd.func12, Tryd.ntmps12
    go_wp2_with fail
    generalize w.alloc (.cells #[.int .i64 c.kind, .int .i64 c.threads, .int .i64 c.chans, .int .i64 c.cap, .int .i64 c.nodes, .int .i64 c.retire, .int .i64 c.patience, .int .i64 c.tags, .int .i64 c.seqs, .int .i64 c.gens, .slice c.sa c.start.length c.sc] 45) = W0 at *
    refine (HW.out _ HCW.out).mono ?_
    rintro e w1 ⟨rfl, hb1⟩
    have HB1 := Lib.hid (HB0.out.trans (hb1.mono HB0.out.size))
    clear hb1
    go_wp2_with fail
    refine (HDO.out _ (HT.out.below HB1.out)).mono ?_
    rintro e w2 ⟨rfl, hb2⟩
    have HB2 := Lib.hid (HB1.out.trans (hb2.mono HB1.out.size))
    clear hb2
    go_upto_region 3 with (fail)
    have sa : (⟨#[32]⟩ ++ zo ++ ⟨#[32]⟩ : ByteArray).size ≤ 23 := by rw [ByteArray.size_append, ByteArray.size_append]; show 1 + zo.size + 1 ≤ 23; omega
    generalize (⟨#[32]⟩ ++ zo ++ ⟨#[32]⟩ : ByteArray) = at_ at *
    have f0 : ¬ 9223372036854775807 < 4 + at_.size := by omega
    have f1 : ¬ 9223372036854775807 < 4 + at_.size + zp.size := by omega
    have f2 : ¬ 9223372036854775807 < 4 + at_.size + zp.size + 1 := by omega
    have f3 : ¬ 9223372036854775807 < 4 + at_.size + zp.size + 1 + hx.size := by omega
    go_wp2_with fail
    refine (HDP.out _ (HT.out.below HB2.out)).mono ?_
    rintro e w3 ⟨rfl, hb3⟩
    have HB3 := Lib.hid (HB2.out.trans (hb3.mono HB2.out.size))
    clear hb3
    go_wp2_with fail
    refine (HHX.out _ (HZ.out.below HB3.out)).mono ?_
    rintro e w4 ⟨rfl, hb4⟩
    have HB4 := Lib.hid (HB3.out.trans (hb4.mono HB3.out.size))
    clear hb4
    go_wp2
    go_ret
    exact HPO.out _ _ (by rw [HV5.out]) HB4.out
  · clear b1 b2 b3 b4 b5 b6 HV0 HV1 HV2 HV3 HV4 HV5 HV7 HV8 HV9 HV10
    go_enter Tryd.func12, Tryd.ntmps12
    go_wp2_with fail
    generalize w.alloc (.cells #[.int .i64 c.kind, .int .i64 c.threads, .int .i64 c.chans, .int .i64 c.cap, .int .i64 c.nodes, .int .i64 c.retire, .int .i64 c.patience, .int .i64 c.tags, .int .i64 c.seqs, .int .i64 c.gens, .slice c.sa c.start.length c.sc] 45) = W0 at *
    refine (HW.out _ HCW.out).mono ?_
    rintro e w1 ⟨rfl, hb1⟩
    have HB1 := Lib.hid (HB0.out.trans (hb1.mono HB0.out.size))
    clear hb1
    go_wp2_with fail
    refine (HDO.out _ (HT.out.below HB1.out)).mono ?_
    rintro e w2 ⟨rfl, hb2⟩
    have HB2 := Lib.hid (HB1.out.trans (hb2.mono HB1.out.size))
    clear hb2
    go_upto_region 3 with (fail)
    have sa : (⟨#[32]⟩ ++ zo ++ ⟨#[32]⟩ : ByteArray).size ≤ 23 := by rw [ByteArray.size_append, ByteArray.size_append]; show 1 + zo.size + 1 ≤ 23; omega
    generalize (⟨#[32]⟩ ++ zo ++ ⟨#[32]⟩ : ByteArray) = at_ at *
    have f0 : ¬ 9223372036854775807 < 5 + at_.size := by omega
    have f1 : ¬ 9223372036854775807 < 5 + at_.size + nm.size := by omega
    go_wp2_with fail
    refine (HNM.out _ (HT.out.below HB2.out) (HZ.out.below HB2.out)).mono ?_
    rintro e w3 ⟨rfl, hb3⟩
    have HB3 := Lib.hid (HB2.out.trans (hb3.mono HB2.out.size))
    clear hb3
    go_wp2
    go_ret
    exact HPO.out _ _ (by rw [HV6.out]) HB3.out
  · clear b1 b2 b3 b4 b5 b6 HV0 HV1 HV2 HV3 HV4 HV5 HV6 HV8 HV9 HV10
    go_enter Tryd.func12, Tryd.ntmps12
    go_wp2_with fail
    generalize w.alloc (.cells #[.int .i64 c.kind, .int .i64 c.threads, .int .i64 c.chans, .int .i64 c.cap, .int .i64 c.nodes, .int .i64 c.retire, .int .i64 c.patience, .int .i64 c.tags, .int .i64 c.seqs, .int .i64 c.gens, .slice c.sa c.start.length c.sc] 45) = W0 at *
    refine (HW.out _ HCW.out).mono ?_
    rintro e w1 ⟨rfl, hb1⟩
    have HB1 := Lib.hid (HB0.out.trans (hb1.mono HB0.out.size))
    clear hb1
    go_wp2_with fail
    refine (HDO.out _ (HT.out.below HB1.out)).mono ?_
    rintro e w2 ⟨rfl, hb2⟩
    have HB2 := Lib.hid (HB1.out.trans (hb2.mono HB1.out.size))
    clear hb2
    go_upto_region 3 with (fail)
    have sa : (⟨#[32]⟩ ++ zo ++ ⟨#[32]⟩ : ByteArray).size ≤ 23 := by rw [ByteArray.size_append, ByteArray.size_append]; show 1 + zo.size + 1 ≤ 23; omega
    generalize (⟨#[32]⟩ ++ zo ++ ⟨#[32]⟩ : ByteArray) = at_ at *
    have f0 : ¬ 9223372036854775807 < 2 + at_.size := by omega
    have f1 : ¬ 9223372036854775807 < 2 + at_.size + iu.size := by omega
    go_wp2_with fail
    refine (HIN.out _ (HT.out.below HB2.out)).mono ?_
    rintro e w3 ⟨rfl, hb3⟩
    have HB3 := Lib.hid (HB2.out.trans (hb3.mono HB2.out.size))
    clear hb3
    go_wp2
    go_ret
    exact HPO.out _ _ (by rw [HV7.out]) HB3.out
  · clear b1 b2 b3 b4 b5 b6 HV0 HV1 HV2 HV3 HV4 HV5 HV6 HV7 HV9 HV10
    go_enter Tryd.func12, Tryd.ntmps12
    go_wp2_with fail
    generalize w.alloc (.cells #[.int .i64 c.kind, .int .i64 c.threads, .int .i64 c.chans, .int .i64 c.cap, .int .i64 c.nodes, .int .i64 c.retire, .int .i64 c.patience, .int .i64 c.tags, .int .i64 c.seqs, .int .i64 c.gens, .slice c.sa c.start.length c.sc] 45) = W0 at *
    refine (HW.out _ HCW.out).mono ?_
    rintro e w1 ⟨rfl, hb1⟩
    have HB1 := Lib.hid (HB0.out.trans (hb1.mono HB0.out.size))
    clear hb1
    go_wp2_with fail
    refine (HDO.out _ (HT.out.below HB1.out)).mono ?_
    rintro e w2 ⟨rfl, hb2⟩
    have HB2 := Lib.hid (HB1.out.trans (hb2.mono HB1.out.size))
    clear hb2
    go_upto_region 3 with (fail)
    have sa : (⟨#[32]⟩ ++ zo ++ ⟨#[32]⟩ : ByteArray).size ≤ 23 := by rw [ByteArray.size_append, ByteArray.size_append]; show 1 + zo.size + 1 ≤ 23; omega
    generalize (⟨#[32]⟩ ++ zo ++ ⟨#[32]⟩ : ByteArray) = at_ at *
    have f0 : ¬ 9223372036854775807 < 4 + at_.size := by omega
    have f1 : ¬ 9223372036854775807 < 4 + at_.size + rs.size := by omega
    go_wp2_with fail
    refine (HRR.out _).mono ?_
    rintro e w3 ⟨rfl, hb3⟩
    have HB3 := Lib.hid (HB2.out.trans (hb3.mono HB2.out.size))
    clear hb3
    go_wp2_with fail
    refine (HRS.out _ (HT.out.below HB3.out)).mono ?_
    rintro e w4 ⟨rfl, hb4⟩
    have HB4 := Lib.hid (HB3.out.trans (hb4.mono HB3.out.size))
    clear hb4
    go_wp2
    go_ret
    exact HPO.out _ _ (by rw [HV8.out]) HB4.out
  · clear b1 b2 b3 b4 b5 b6 HV0 HV1 HV2 HV3 HV4 HV5 HV6 HV7 HV8 HV10
    go_enter Tryd.func12, Tryd.ntmps12
    go_wp2_with fail
    generalize w.alloc (.cells #[.int .i64 c.kind, .int .i64 c.threads, .int .i64 c.chans, .int .i64 c.cap, .int .i64 c.nodes, .int .i64 c.retire, .int .i64 c.patience, .int .i64 c.tags, .int .i64 c.seqs, .int .i64 c.gens, .slice c.sa c.start.length c.sc] 45) = W0 at *
    refine (HW.out _ HCW.out).mono ?_
    rintro e w1 ⟨rfl, hb1⟩
    have HB1 := Lib.hid (HB0.out.trans (hb1.mono HB0.out.size))
    clear hb1
    go_wp2_with fail
    refine (HDO.out _ (HT.out.below HB1.out)).mono ?_
    rintro e w2 ⟨rfl, hb2⟩
    have HB2 := Lib.hid (HB1.out.trans (hb2.mono HB1.out.size))
    clear hb2
    go_upto_region 3 with (fail)
    have sa : (⟨#[32]⟩ ++ zo ++ ⟨#[32]⟩ : ByteArray).size ≤ 23 := by rw [ByteArray.size_append, ByteArray.size_append]; show 1 + zo.size + 1 ≤ 23; omega
    generalize (⟨#[32]⟩ ++ zo ++ ⟨#[32]⟩ : ByteArray) = at_ at *
    have f0 : ¬ 9223372036854775807 < 3 + at_.size := by omega
    have f1 : ¬ 9223372036854775807 < 3 + at_.size + du.size := by omega
    go_wp2_with fail
    refine (HFU.out _ (HT.out.below HB2.out)).mono ?_
    rintro e w3 ⟨rfl, hb3⟩
    have HB3 := Lib.hid (HB2.out.trans (hb3.mono HB2.out.size))
    clear hb3
    go_wp2
    go_ret
    exact HPO.out _ _ (by rw [HV9.out]) HB3.out
  · clear b1 b2 b3 b4 b5 b6 HV0 HV1 HV2 HV3 HV4 HV5 HV6 HV7 HV8 HV9
    go_enter Tryd.func12, Tryd.ntmps12
    go_wp2_with fail
    generalize w.alloc (.cells #[.int .i64 c.kind, .int .i64 c.threads, .int .i64 c.chans, .int .i64 c.cap, .int .i64 c.nodes, .int .i64 c.retire, .int .i64 c.patience, .int .i64 c.tags, .int .i64 c.seqs, .int .i64 c.gens, .slice c.sa c.start.length c.sc] 45) = W0 at *
    refine (HW.out _ HCW.out).mono ?_
    rintro e w1 ⟨rfl, hb1⟩
    have HB1 := Lib.hid (HB0.out.trans (hb1.mono HB0.out.size))
    clear hb1
    go_wp2_with fail
    refine (HDO.out _ (HT.out.below HB1.out)).mono ?_
    rintro e w2 ⟨rfl, hb2⟩
    have HB2 := Lib.hid (HB1.out.trans (hb2.mono HB1.out.size))
    clear hb2
    go_upto_region 3 with (fail)
    have sa : (⟨#[32]⟩ ++ zo ++ ⟨#[32]⟩ : ByteArray).size ≤ 23 := by rw [ByteArray.size_append, ByteArray.size_append]; show 1 + zo.size + 1 ≤ 23; omega
    generalize (⟨#[32]⟩ ++ zo ++ ⟨#[32]⟩ : ByteArray) = at_ at *
    have f0 : ¬ 9223372036854775807 < 4 + at_.size := by omega
    have f1 : ¬ 9223372036854775807 < 4 + at_.size + zp.size := by omega
    have f2 : ¬ 9223372036854775807 < 4 + at_.size + zp.size + 1 := by omega
    have f3 : ¬ 9223372036854775807 < 4 + at_.size + zp.size + 1 + hx.size := by omega
    go_wp2_with fail
    refine (HDP.out _ (HT.out.below HB2.out)).mono ?_
    rintro e w3 ⟨rfl, hb3⟩
    have HB3 := Lib.hid (HB2.out.trans (hb3.mono HB2.out.size))
    clear hb3
    go_wp2_with fail
    refine (HHX.out _ (HZ.out.below HB3.out)).mono ?_
    rintro e w4 ⟨rfl, hb4⟩
    have HB4 := Lib.hid (HB3.out.trans (hb4.mono HB3.out.size))
    clear hb4
    go_wp2
    go_ret
    exact HPO.out _ _ (by rw [HV10.out]) HB4.out

end Go.Proofs.YtknlhkkpheahlaaDoor
