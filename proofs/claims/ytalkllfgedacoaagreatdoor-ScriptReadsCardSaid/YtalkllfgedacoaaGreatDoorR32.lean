/- Any text of a script, read both ways: the statement ScriptReads, whole: for every input the call returns true, and what came in reads as before. Conditions: none but what the row lists: the library's tables, tied to the program's text. -/
import Derived.Test.YtalkllfgedacoaaGreatDoorR25
import Derived.Test.YtalkllfgedacoaaGreatDoorR31
import Derived.Test.YtalkllfgedacoaaGreatDoorR29
import Derived.Test.YtalkllfgedacoaaGreatDoorR10
import Derived.Test.YtalkllfgedacoaaGreatDoorCards
import Derived.Test.YtalkllfgedacoaaGreatDoorTie
import Derived.Deep.DeepHandedRow
import Derived.LaidMore
import Derived.Stop.LaidErr
namespace Go.Proofs.YtalkllfgedacoaaGreatDoor
open Go.RowKit Go.Sort

set_option maxHeartbeats 8000000 in
set_option maxRecDepth 100000 in
theorem rSRead_any (s : ByteArray) (w : World) (hz : s.size ≤ 281474976710656) : Calls Tryz.prog 22 #[.string s] w fun e w' => rReadWr s w e w' ∨ rReadRt s w e w' := by
  by_cases hlong : 65536 < s.size
  · have HV : RowKit.Hid (readQ s = .wrong 0 4) := Lib.hid (by unfold readQ; rw [if_pos hlong])
    have q1 : (65536 : Int) < (s.size : Int) := by omega
    clear hlong 
    go_enter Tryz.func22, Tryz.ntmps22
    go_wp2
    go_ret3
    exact .inl ⟨0, 4, HV.out, by decide, rfl, Below.refl _ _⟩
  have q1 : ¬ (65536 : Int) < (s.size : Int) := by omega
  have HV0 : RowKit.Hid (readQ s = readL 0 (wordsC 10 s) []) := Lib.hid (by unfold readQ; rw [if_neg hlong])
  have HSP := Lib.hid (rSplitC_any 10 s w (by omega))
  have HWZ := Lib.hid (wordsC_size 10 s)
  have hwl := wordsC_le 10 s
  have HSZ : RowKit.Hid (s.size ≤ 65536) := Lib.hid (by omega)
  unfold SplitPost at HSP
  generalize wordsC 10 s = words at *
  generalize hn : words.length = N at *
  have HN := Lib.hid hn
  have hN : N ≤ 65537 := by omega
  clear hn  hlong hwl
  go_enter Tryz.func22, Tryz.ntmps22
  go_wp2_with (go_at_call 49; refine HSP.out.mono ?_; rintro er w1 ⟨L, cp, rfl, hcp, hLw, hR, hb1⟩; have HRD := Lib.hid hR; have HB1 := Lib.hid hb1; clear hR hb1 hLw)
  go_loopg [16, 5] N (fun gg i v wr => ∃ (k : Nat) (out : List Ev) (l : List EvR) (A : Option Addr) (n c : Nat), k ≤ N ∧ gg = N - k ∧ i = .int .i64 k ∧ v = .slice A n c ∧ RdS s words w1 k out l A n c wr)
  case atStart => exact ⟨0, [], [], none, 0, 0, Nat.zero_le _, rfl, rfl, rfl, rfl, Nat.zero_le _, HV0.out, own_nil _ _ _ _, trivial, Below.refl _ _⟩
  case round =>
    obtain ⟨k, out, l, A, n, c, hk, hg, rfl, rfl, hr⟩ := hrel
    have HG := Lib.hid hg
    have HR := Lib.hid hr
    have hon := hr.outs
    have hos := hr.sz
    have HON := Lib.hid hon
    have hn16 : n ≤ 16384 := by omega
    have HBR := Lib.hid (HB1.out.trans (hr.bel.mono HB1.out.size))
    clear hg hr hon hos
    by_cases hlt : k < N
    · have r1 : (k : Int) < (N : Int) := by omega
      have hkl : k < words.length := by rw [HN.out]; exact hlt
      obtain ⟨_, x0⟩ := rd_wordK (HRD.out.below HR.out.bel) hkl
      have HXZ : RowKit.Hid ((words.getD k ⟨#[]⟩).size ≤ 65536) := Lib.hid (Nat.le_trans (HWZ.out _ (by rw [List.getD, List.getElem?_eq_getElem hkl]; exact List.getElem_mem _)) HSZ.out)
      generalize hxe : words.getD k ⟨#[]⟩ = x at *
      have HXE := Lib.hid hxe
      clear hxe
      have HKL := Lib.hid hkl
      by_cases h0 : x.size = 0
      · have HRN := Lib.hid (HR.out.next hkl HXE.out (skip_empty h0))
        obtain rfl : x = ⟨#[]⟩ := empty_of h0
        clear h0 hkl
        go_wp2_with fail
        go_roundg (N - (k + 1))
        case measure => rw [HG.out]; omega
        case rel => exact ⟨k + 1, out, l, A, n, c, by omega, rfl, by go_num, rfl, HRN.out⟩
      have hx0 : 0 < x.size := by omega
      have e0 : x.toList.isEmpty = false := by
        cases hxl : x.toList with
        | nil =>
          exfalso
          have := congrArg List.length hxl
          rw [ByteArray.toList_eq, Array.length_toList] at this
          exact h0 this
        | cons a r => rfl
      by_cases h35 : x.data.toList.getD 0 0 = 35
      · have HRN := Lib.hid (HR.out.next hkl HXE.out (skip_hash h35))
        have hg0 : x[0] = 35 := by rw [← first_byte hx0]; exact h35
        clear h35 h0 hkl
        go_wp2_with fail
        go_roundg (N - (k + 1))
        case measure => rw [HG.out]; omega
        case rel => exact ⟨k + 1, out, l, A, n, c, by omega, rfl, by go_num, rfl, HRN.out⟩
      have HSK := Lib.hid (skip_not h0 h35)
      have hg0 : ¬ x[0] = 35 := by rw [← first_byte hx0]; exact h35
      have hg1 : ((x[0].toNat : Int) == 35) = false := by
        rw [beq_eq_false_iff_ne]
        intro e
        exact hg0 (UInt8.toNat_inj.1 (by have h : (35 : UInt8).toNat = 35 := rfl; omega))
      clear h35 h0
      have HLA := Lib.hid (fun W (_ : Below w.heap.size w W) => rline24_any x W (by have := HXZ.out; omega))
      cases hlq : lineQ x with
      | none =>
        have HLC := Lib.hid (line_no (HLA.out wr HBR.out) hlq)
        unfold LineB at HLC
        by_cases h120 : 120 < x.size
        · have q2 : (120 : Int) < (x.size : Int) := by omega
          have HV : RowKit.Hid (readQ s = .wrong (k + 1) 4) := Lib.hid (by rw [HR.out.red, drop_at hkl, HXE.out, readL_bad2 HSK.out (by rw [lineC_noneS hlq, if_pos h120])])
          go_wp2_with (go_at_call 50; refine HLC.out.mono ?_; rintro er w2 ⟨A2, n2, c2, rfl, hb2⟩; have HB2 := Lib.hid (HBR.out.trans (hb2.mono HBR.out.size)); clear hb2)
          go_ret3
          exact .inl ⟨k + 1, 4, HV.out, by decide, rfl, HB2.out⟩
        · have q2 : ¬ (120 : Int) < (x.size : Int) := by omega
          have HV : RowKit.Hid (readQ s = .wrong (k + 1) 17) := Lib.hid (by rw [HR.out.red, drop_at hkl, HXE.out, readL_bad2 HSK.out (by rw [lineC_noneS hlq, if_neg h120])])
          go_wp2_with (go_at_call 50; refine HLC.out.mono ?_; rintro er w2 ⟨A2, n2, c2, rfl, hb2⟩; have HB2 := Lib.hid (HBR.out.trans (hb2.mono HBR.out.size)); clear hb2)
          go_ret3
          exact .inl ⟨k + 1, 17, HV.out, by decide, rfl, HB2.out⟩
      | some y =>
        have hy1 := lineQ_lenE hlq
        have HLC := Lib.hid (line_ok (HLA.out wr HBR.out) hlq)
        unfold LineG at HLC
        by_cases h120 : 120 < x.size
        · have q2 : (120 : Int) < (x.size : Int) := by omega
          have HV : RowKit.Hid (readQ s = .wrong (k + 1) 4) := Lib.hid (by rw [HR.out.red, drop_at hkl, HXE.out, readL_bad2 HSK.out (by rw [lineC_someS hlq, if_pos (.inl h120)])])
          go_wp2_with (go_at_call 50; refine HLC.out.mono ?_; rintro er w2 ⟨A2, c2, rfl, hev, hnil, hb2⟩; have HEV := Lib.hid hev; have HNL := Lib.hid hnil; have HLB := Lib.hid hb2; have HB2 := Lib.hid (HBR.out.trans (hb2.mono HBR.out.size)); clear hev hnil hb2)
          go_ret3
          exact .inl ⟨k + 1, 4, HV.out, by decide, rfl, HB2.out⟩
        by_cases hbig : 16384 < out.length + y.length
        · have q2 : ¬ (120 : Int) < (x.size : Int) := by omega
          have q3 : (16384 : Int) < (n : Int) + (y.length : Int) := by have := HON.out; omega
          have q4 : IntKind.i64.wrap ((n : Int) + (y.length : Int)) = (n : Int) + (y.length : Int) := by exact IntWalk.i64_in _ (by have := HON.out; omega)
          have HV : RowKit.Hid (readQ s = .wrong (k + 1) 4) := Lib.hid (by rw [HR.out.red, drop_at hkl, HXE.out, readL_bad2 HSK.out (by rw [lineC_someS hlq, if_pos (.inr hbig)])])
          go_wp2_with (go_at_call 50; refine HLC.out.mono ?_; rintro er w2 ⟨A2, c2, rfl, hev, hnil, hb2⟩; have HEV := Lib.hid hev; have HNL := Lib.hid hnil; have HLB := Lib.hid hb2; have HB2 := Lib.hid (HBR.out.trans (hb2.mono HBR.out.size)); clear hev hnil hb2)
          go_ret3
          exact .inl ⟨k + 1, 4, HV.out, by decide, rfl, HB2.out⟩
        have q2 : ¬ (120 : Int) < (x.size : Int) := by omega
        have q3 : ¬ (16384 : Int) < (n : Int) + (y.length : Int) := by have := HON.out; omega
        have q4 : IntKind.i64.wrap ((n : Int) + (y.length : Int)) = (n : Int) + (y.length : Int) := by exact IntWalk.i64_in _ (by have := HON.out; omega)
        have HCC : RowKit.Hid (¬ (120 < x.size ∨ 16384 < out.length + y.length)) := Lib.hid (by omega)
        have HLQ := Lib.hid hlq
        have hyl : n + y.length ≤ 16384 := by have := HON.out; omega
        clear hlq h120 hbig hkl HLA
        go_upto_region 13 with (go_at_call 50; refine HLC.out.mono ?_; rintro er w2 ⟨A2, c2, rfl, hev, hnil, hb2⟩; have HEV := Lib.hid hev; have HNL := Lib.hid hnil; have HLB := Lib.hid hb2; have HB2 := Lib.hid (HBR.out.trans (hb2.mono HBR.out.size)); clear hev hnil hb2)
        obtain ⟨r, hr1, hr2, hr3, hr4, hr5⟩ := HR.out.line HLB.out HEV.out
        have HR1 := Lib.hid hr1
        have HR2 := Lib.hid hr2
        have HR3 := Lib.hid hr3
        have HR4 := Lib.hid hr4
        have HR5 := Lib.hid hr5
        have hsz5 := hr5.size
        clear hr1 hr2 hr3 hr4 hr5 HLC
        generalize hyn : y.length = m at *
        have HYM := Lib.hid hyn
        clear hyn
        go_wp2_with (at_builtin; refine wpList_app2 rfl (.tmp 53) (.tmp 54) 61 74 rfl w1.heap.size (evV EvR.none) 9 104 Tryz.underlying61 ev_info rfl (by decide) A n c (rows l) rfl HR3.out A2 m c2 (rows r) rfl HNL.out (by rw [rows_length, HR1.out]; rfl) HR2.out (rows_one _) (n + m) rfl (rows (l ++ r)) (by rw [rows_append]) (by unfold maxLen; omega) (by omega) hsz5 ?_; intro A4 c4 w4 hown4 hg4 hb4 hw4; have HRN := Lib.hid (HR.out.app HKL.out HXE.out HSK.out HLQ.out HYM.out HCC.out HR1.out HR4.out HR5.out hown4 hg4 hb4 hw4); clear hown4 hg4 hb4 hw4)
        go_roundg (N - (k + 1))
        case measure => rw [HG.out]; omega
        case rel => exact ⟨k + 1, out ++ y, l ++ r, A4, n + m, c4, by omega, rfl, by go_num, rfl, HRN.out⟩
    · obtain rfl : k = N := by omega
      have r1 : ¬ (k : Int) < (k : Int) := by omega
      have HV : RowKit.Hid (readQ s = .right out) := Lib.hid (by rw [HR.out.red, List.drop_of_length_le (by rw [HN.out]; exact Nat.le_refl _)]; rfl)
      go_wp2_with fail
      go_ret3
      have hon := HON.out
      refine .inr ⟨out, A, c, HV.out, by rw [hon]; rfl, by rw [hon]; exact ⟨l, HR.out.len, own_rd HR.out.own, HR.out.evs.at_⟩, ?_, by rw [hon]; exact own_le HR.out.own, HR.out.sz, HBR.out⟩
      intro h
      rw [hon]
      exact ⟨(own_none HR.out.own h).1, (own_none HR.out.own h).2.1⟩

end Go.Proofs.YtalkllfgedacoaaGreatDoor

namespace Go.Proofs.YtalkllfgedacoaaGreatDoor
open Go.RowKit Go.Sort

def rSReadB (line code : Nat) (w : World) (e : Ending) (w' : World) : Prop := code ≠ 0 ∧ e = .returned (.tuple #[.slice none 0 0, .int .i64 line, .int .i64 code]) ∧ Below w.heap.size w w'
def rSReadG (l : List Ev) (w : World) (e : Ending) (w' : World) : Prop := ∃ A c, e = .returned (.tuple #[.slice A l.length c, .int .i64 0, .int .i64 0]) ∧ EvsIn w' A l.length l ∧ (A = none → l.length = 0 ∧ c = 0) ∧ l.length ≤ c ∧ l.length ≤ 16384 ∧ Below w.heap.size w w'
theorem rsread_wr {s : ByteArray} {w : World} {a b : Nat} (hz : s.size ≤ 281474976710656) (h : readQ s = .wrong a b) : Calls Tryz.prog 22 #[.string s] w (rSReadB a b w) :=
  (rSRead_any s w hz).mono fun e w' h' => by
    rcases h' with ⟨line, code, h1, h2, h3, h4⟩ | ⟨l, A, c, h1, _⟩
    · rw [h] at h1
      injection h1 with e1 e2
      subst e1 e2
      exact ⟨h2, h3, h4⟩
    · rw [h] at h1; cases h1
theorem rsread_rt {s : ByteArray} {w : World} {l : List Ev} (hz : s.size ≤ 281474976710656) (h : readQ s = .right l) : Calls Tryz.prog 22 #[.string s] w (rSReadG l w) :=
  (rSRead_any s w hz).mono fun e w' h' => by
    rcases h' with ⟨line, code, h1, _⟩ | ⟨l', A, c, h1, h2⟩
    · rw [h] at h1; cases h1
    · rw [h] at h1
      injection h1 with e1
      subst e1
      exact ⟨A, c, h2⟩

set_option maxHeartbeats 8000000 in
set_option maxRecDepth 100000 in
theorem lawSR_any (s : ByteArray) (w : World) (hz : s.size ≤ 281474976710656) (he : ErrT w) (ht : TabT w) (hm : MLT w) (hq : EtT w) : Calls Tryz.prog 5 #[.string s] w fun e w' => e = .returned (.bool true) ∧ Below w.heap.size w w' := by
  have HA := Lib.hid (fun W (h : Below w.heap.size w W) => awake24_any W (he.below h) (ht.below h) (hm.below h) (hq.below h))
  cases hr : readQ s with
  | wrong a b =>
    have H1 := Lib.hid (sread_wr hz he ht hm hr)
    have H2 := Lib.hid (fun W => rsread_wr (w := W) hz hr)
    have HP := Lib.hid (fun W B v (h : Below w.heap.size w W) (hc : Chain B W v [(lineB, (a : Int))] (b : Int)) => Place_any lineB B v [(lineB, (a : Int))] (b : Int) W hc (hq.below h) (by simp))
    have HC := Lib.hid (fun W B v (h : Below w.heap.size w W) (hc : Chain B W v [(lineB, (a : Int))] (b : Int)) => Code_any B v [(lineB, (a : Int))] (b : Int) W hc (hq.below h))
    have hpl : placeL lineB [(lineB, (a : Int))] (0, false) = ((a : Int), true) := by simp [placeL]
    rw [hpl] at HP
    simp only at HP
    unfold SReadB at H1
    unfold rSReadB at H2
    unfold lineB at HP
    clear he ht hm hq hpl hr hz
    go_enter Tryz.func5, Tryz.ntmps5
    go_upto_region 2 with (go_at_call 21; refine H1.out.mono ?_; rintro er w1 ⟨hb0, v, rfl, hch, hb1⟩; have HCH := Lib.hid hch; have HB1 := Lib.hid hb1; clear hch hb1)
    obtain ⟨ti, ui, hv⟩ := HCH.out.iface
    subst hv
    have n1 : ((b : Int) == 0) = false := beq_eq_false_iff_ne.2 (by omega)
    go_upto_region 3 with (go_at_call 22; refine (H2.out _).mono ?_; rintro er w2 ⟨_, rfl, hb2⟩; have HCH2 := Lib.hid (HCH.out.below hb2); have HB2 := Lib.hid (HB1.out.trans (hb2.mono HB1.out.size)); clear hb2)
    go_upto_region 6 with (go_at_call 23; refine (HC.out _ _ _ HB2.out HCH2.out).mono ?_; rintro er w3 ⟨rfl, hb3⟩; have HCH3 := Lib.hid (HCH2.out.below hb3); have HB3 := Lib.hid (HB2.out.trans (hb3.mono HB2.out.size)); clear hb3)
    go_upto_region 7 with (go_at_call 24; refine (HP.out _ _ _ HB3.out HCH3.out).mono ?_; rintro er w4 ⟨rfl, hb4⟩; have HB4 := Lib.hid (HB3.out.trans (hb4.mono HB3.out.size)); clear hb4)
    go_wp2_with (go_at_call 25; refine (HA.out _ HB4.out).mono ?_; rintro er w5 ⟨rfl, hb5⟩; have HB5 := Lib.hid (HB4.out.trans (hb5.mono HB4.out.size)); clear hb5)
    go_ret
    exact ⟨by rfl, HB5.out⟩
  | right l =>
    have H1 := Lib.hid (sread_rt hz he ht hm hr)
    have H2 := Lib.hid (fun W => rsread_rt (w := W) hz hr)
    have HS := Lib.hid (readQ_small hr)
    unfold SReadG at H1
    unfold rSReadG at H2
    clear he ht hm hq hr hz
    have HV := Lib.hid (fun A B c d W (hn : l.length ≤ 1048576) (h1 : EvsIn W A l.length l) (h2 : EvsIn W B l.length l) => Events_same A B l.length c d l W hn h1 h2 HS.out)
    generalize hN : l.length = N at *
    clear hN
    go_enter Tryz.func5, Tryz.ntmps5
    go_upto_region 2 with (go_at_call 21; refine H1.out.mono ?_; rintro er w1 ⟨A, c, rfl, hev, _, _, hn, hb1⟩; have HEV := Lib.hid hev; have HB1 := Lib.hid hb1; have HN := Lib.hid hn; clear hev hb1 hn)
    go_upto_region 3 with (go_at_call 22; refine (H2.out _).mono ?_; rintro er w2 ⟨A2, c2, rfl, hev2, _, _, _, hb2⟩; have HEV1 := Lib.hid (HEV.out.below hb2); have HEV2 := Lib.hid hev2; have HB2 := Lib.hid (HB1.out.trans (hb2.mono HB1.out.size)); clear hb2 hev2)
    go_upto_region 8 with (go_at_call 23; refine (Code_nil _).mono ?_; rintro er w3 ⟨rfl, hb3⟩; have HEV3 := Lib.hid (HEV1.out.below hb3); have HEV4 := Lib.hid (HEV2.out.below hb3); have HB3 := Lib.hid (HB2.out.trans (hb3.mono HB2.out.size)); clear hb3)
    have hev := HV.out A A2 c c2 _ (by have := HN.out; omega) HEV3.out HEV4.out
    have HE := Lib.hid hev
    clear hev
    go_wp2_with (first | (go_at_call 26; refine HE.out.mono ?_; rintro er w4 ⟨rfl, hb4⟩; have HB4 := Lib.hid (HB3.out.trans (hb4.mono HB3.out.size)); clear hb4) | (go_at_call 25; refine (HA.out _ HB4.out).mono ?_; rintro er w5 ⟨rfl, hb5⟩; have HB5 := Lib.hid (HB4.out.trans (hb5.mono HB4.out.size)); clear hb5))
    go_ret
    exact ⟨by rfl, HB5.out⟩

end Go.Proofs.YtalkllfgedacoaaGreatDoor

namespace Go.Proofs.YtalkllfgedacoaaGreatDoor
open Go.ChangeShapes Go.WideShapes Go.ChangeAt Go.RowKit Go.Deep

theorem scriptReads_laid {W : World} (h : laidMetH Tryz.prog Rows.scriptReadsRow.laid W) : laidMetH Tryz.prog scrL W := h
theorem scriptReads_met (os : Os) : laidMetH Tryz.prog Rows.scriptReadsRow.laid ((scrW os).forCall (fun _ _ => 0) ⟨#[], #[.string ⟨#[]⟩], []⟩).memory := scr_met os #[.string ⟨#[]⟩]
theorem scriptReads_reads (os : Os) {H : Type} (enc : TypeId × Value → H) : ∃ places, DataW.whole enc Tryz.prog ((scrW os).forCall (fun _ _ => 0) ⟨#[], #[.string ⟨#[]⟩], []⟩).memory Tryz.f5.params.toList Rows.scriptReadsSpec.vars false (#[.string ⟨#[]⟩] : Array Value).toList 8 = some ([.lit (.string [])], [], places) :=
  ⟨[], by kernel_rfl⟩

set_option maxRecDepth 100000 in
theorem scriptReads_lifted (os : Os) (started : os.Started) (H : Type) (enc : TypeId × Value → H) (F : Stop.Interp) :
    ReturnsInHanded {} Tryz.checked os 5 .any ((OpenSpec.ofChange Rows.scriptReadsSpec).preRow enc Tryz.prog Tryz.f5 Rows.scriptReadsRow.domain false Rows.scriptReadsRow.laid) (((OpenSpec.ofChange Rows.scriptReadsSpec).at F).post enc Tryz.prog Tryz.f5 false true false false) := by
  obtain ⟨places, hx⟩ := scriptReads_reads os enc
  refine returnsInHanded_of_row (C := Tryz.checked) (s := OpenSpec.ofChange Rows.scriptReadsSpec) own_knob started (by kernel_rfl) Tryz.func5
    (witness_row_at (enc := enc) (C := Tryz.checked) false (scrW os) #[.string ⟨#[]⟩] (scrW_os os) (by kernel_rfl) (by kernel_rfl) (by kernel_rfl)
      (OpenSpec.preRow_of_cond 8 hx (by kernel_rfl) (fun k hk => by cases hk) (by kernel_rfl) (scriptReads_met os))) ?_
  intro W base args ds gs before hval0 hW _ _ hsz0 hL hSh _
  have hval : ∀ (j : Nat) t v, Tryz.f5.params[j]? = some t → args[j]? = some v → Value.okWide Tryz.prog W .any base t v := hval0
  have hW' := hW
  obtain ⟨p, q, hA0, hV, rfl, hfz, hnd⟩ := hW
  have hA : DataW.TrodAll enc Tryz.prog W 0 (fun _ => true) true Tryz.f5.params.toList args.toList ds p := hA0
  obtain ⟨rfl, rfl⟩ := trodVars_none hV
  have hsz : (DataW.weightsEach Tryz.prog (Tryz.f5.params.toList ++ []) (ds ++ [])).all (· ≤ reachBytes) = true := hsz0
  rw [List.append_nil, List.append_nil] at hsz
  rw [Tryz.params5] at hA hval hsz
  simp only at hA hsz
  obtain ⟨v0, vs0, d0, ds0, p0, q0, hargs0, rfl, rfl, h0, r0⟩ := trodAll_cons hA
  obtain ⟨rfl, rfl, rfl⟩ := trodAll_nil r0
  obtain rfl : args = #[v0] := by cases args; simp_all
  obtain ⟨f0, hz⟩ := fit_cons hsz
  clear hA0 hval0 hsz0 hsz hz
  obtain ⟨s, rfl, hs⟩ := str_argW (hval 0 9 v0 rfl rfl) h0 f0
  have hL2 := scriptReads_laid hL
  have hT := scr_tab hL2
  have hE := scr_err hL2
  have hQ := scr_et hL2
  have hM := scr_ml hSh
  refine (lawSR_any s W (by omega) hE hT hM hQ).mono fun e W' ⟨he, hb⟩ => ?_
  subst he
  exact ⟨_, rfl, law_post laid_out (by kernel_rfl) (by kernel_rfl) Tryz.underlying4 rfl hW' rfl hb⟩

theorem scriptReads_said : Rows.ScriptReadsSaid :=
  OpenClaim.holds_of_cond 5 Tryz.f5 rfl rfl rfl rfl rfl rfl rfl ⟨rfl, rfl, rfl, rfl, rfl⟩ rfl rfl rfl rfl rfl (by kernel_rfl) Tryz.func5 (by kernel_rfl)
    (of_decide_eq_true (by kernel_rfl)) (by unfold Func.isWrapper; first | (rw [if_pos (by decide +kernel)]; kernel_rfl) | (rw [if_neg (by decide +kernel)]; exact ⟨rfl, rfl⟩))
    (fun os started H enc _ F => by rw [OpenClaim.pre_eq_preRow]; exact scriptReads_lifted os started H enc F)

theorem scriptReads_plain (f : FuncId) (fn : Func) (hf : Tryz.pinned.checked.prog.funcNamed "stopgate/stopgatelaw24.ScriptReads" = some f) (hfn : Tryz.pinned.checked.prog.funcs[f]? = some fn) :
    true = Tryz.pinned.checked.prog.looks [] ∧ ∀ (j : Nat) t, fn.params[j]? = some t → Tryz.pinned.checked.prog.wantsStandIn t = false := by
  obtain rfl : f = 5 := Option.some.inj ((show Tryz.prog.funcNamed "stopgate/stopgatelaw24.ScriptReads" = some 5 by kernel_rfl).symm.trans hf) |>.symm
  obtain rfl : fn = Tryz.f5 := (Option.some.inj (Tryz.func5.symm.trans hfn)).symm
  refine ⟨by kernel_rfl, fun j t ht => ?_⟩
  rw [Tryz.params5] at ht
  have hm : t ∈ [9] := by simpa using Array.mem_of_getElem? ht
  have hall : ([9].all fun u => !Tryz.prog.wantsStandIn u) = true := by kernel_rfl
  exact (show Tryz.prog.wantsStandIn t = false by simpa using List.all_eq_true.1 hall t hm)

theorem scriptReads_holds : Rows.ScriptReadsCardSaid :=
  Claim7.holds_tied_plain_at .later [] _ _ _ _ scriptReads_said (fun _ h => by cases h) (by kernel_rfl) (fun _ h => by cases h) scriptReads_row_tie rfl ⟨rfl, rfl⟩ (by kernel_rfl) rfl scriptReads_plain (by kernel_rfl)

end Go.Proofs.YtalkllfgedacoaaGreatDoor
