/- errors.As, at a target of a fault and at a target of a number, over faults around a number: walked by the model's entries for reflectlite. -/
import Derived.Test.YtalkllfgedacoaaGreatDoorD25
import Derived.Test.YtalkllfgedacoaaGreatDoorD27
import Derived.Test.YtalkllfgedacoaaGreatDoorD13
import Derived.Test.YtalkllfgedacoaaGreatDoorD24
namespace Go.Proofs.YtalkllfgedacoaaGreatDoor
open Go.RowKit Go.Sort

set_option maxHeartbeats 8000000 in
set_option maxRecDepth 100000 in
theorem SRead_any (s : ByteArray) (w : World) (hz : s.size ≤ 281474976710656) (he : ErrT w) (ht : TabT w) (hm : MLT w) : Calls Tryz.prog 21 #[.string s] w fun e w' => ReadWr s w e w' ∨ ReadRt s w e w' := by
  have HE := Lib.hid he
  have HT := Lib.hid ht
  have HM := Lib.hid hm
  by_cases hlong : 65536 < s.size
  · have HV : RowKit.Hid (readQ s = .wrong 0 4) := Lib.hid (by unfold readQ; rw [if_pos hlong])
    have q1 : (65536 : Int) < (s.size : Int) := by omega
    clear hlong he ht hm
    have HA := Lib.hid (At_any lineB 0 4 w (by decide))
    go_enter Tryz.func21, Tryz.ntmps21
    go_wp2_with (go_at_call 46; refine HA.out.mono ?_; rintro er w1 ⟨v, rfl, hch, hb1⟩; have HCH := Lib.hid hch; have HB1 := Lib.hid hb1; clear hch hb1)
    go_ret2
    exact .inl ⟨0, 4, v, HV.out, by decide, rfl, HCH.out, HB1.out⟩
  have q1 : ¬ (65536 : Int) < (s.size : Int) := by omega
  have HV0 : RowKit.Hid (readQ s = readL 0 (wordsC 10 s) []) := Lib.hid (by unfold readQ; rw [if_neg hlong])
  have HSP := Lib.hid (SplitC_any 10 s w (by omega) HM.out)
  have HWZ := Lib.hid (wordsC_size 10 s)
  have hwl := wordsC_le 10 s
  have HSZ : RowKit.Hid (s.size ≤ 65536) := Lib.hid (by omega)
  unfold SplitPost at HSP
  generalize wordsC 10 s = words at *
  generalize hn : words.length = N at *
  have HN := Lib.hid hn
  have hN : N ≤ 65537 := by omega
  clear hn he ht hm hlong hwl
  go_enter Tryz.func21, Tryz.ntmps21
  go_wp2_with (go_at_call 47; refine HSP.out.mono ?_; rintro er w1 ⟨L, cp, rfl, hcp, hLw, hR, hb1⟩; have HRD := Lib.hid hR; have HB1 := Lib.hid hb1; clear hR hb1 hLw)
  go_loopg [16, 4] N (fun gg i v wr => ∃ (k : Nat) (out : List Ev) (l : List EvR) (A : Option Addr) (n c : Nat), k ≤ N ∧ gg = N - k ∧ i = .int .i64 k ∧ v = .slice A n c ∧ RdS s words w1 k out l A n c wr)
  case atStart => exact ⟨0, [], [], none, 0, 0, Nat.zero_le _, rfl, rfl, rfl, rfl, Nat.zero_le _, HV0.out, own_nil _ _ _ _, trivial, Below.refl _ _⟩
  case round =>
    obtain ⟨k, out, l, A, n, c, hk, hg, rfl, rfl, hr⟩ := hrel
    have HG := Lib.hid hg
    have HR := Lib.hid hr
    have hon := hr.outs
    have hos := hr.sz
    have HON := Lib.hid hon
    have hn16 : n ≤ 16384 := by omega
    have HBR := Lib.hid (HB1.out.trans (hr.bel.mono HB1.out.size))
    clear hg hr hon hos
    by_cases hlt : k < N
    · have r1 : (k : Int) < (N : Int) := by omega
      have hkl : k < words.length := by rw [HN.out]; exact hlt
      obtain ⟨_, x0⟩ := rd_wordK (HRD.out.below HR.out.bel) hkl
      have HXZ : RowKit.Hid ((words.getD k ⟨#[]⟩).size ≤ 65536) := Lib.hid (Nat.le_trans (HWZ.out _ (by rw [List.getD, List.getElem?_eq_getElem hkl]; exact List.getElem_mem _)) HSZ.out)
      generalize hxe : words.getD k ⟨#[]⟩ = x at *
      have HXE := Lib.hid hxe
      clear hxe
      have HKL := Lib.hid hkl
      by_cases h0 : x.size = 0
      · have HRN := Lib.hid (HR.out.next hkl HXE.out (skip_empty h0))
        obtain rfl : x = ⟨#[]⟩ := empty_of h0
        clear h0 hkl
        go_wp2_with fail
        go_roundg (N - (k + 1))
        case measure => rw [HG.out]; omega
        case rel => exact ⟨k + 1, out, l, A, n, c, by omega, rfl, by go_num, rfl, HRN.out⟩
      have hx0 : 0 < x.size := by omega
      have e0 : x.toList.isEmpty = false := by
        cases hxl : x.toList with
        | nil =>
          exfalso
          have := congrArg List.length hxl
          rw [ByteArray.toList_eq, Array.length_toList] at this
          exact h0 this
        | cons a r => rfl
      by_cases h35 : x.data.toList.getD 0 0 = 35
      · have HRN := Lib.hid (HR.out.next hkl HXE.out (skip_hash h35))
        have hg0 : x[0] = 35 := by rw [← first_byte hx0]; exact h35
        clear h35 h0 hkl
        go_wp2_with fail
        go_roundg (N - (k + 1))
        case measure => rw [HG.out]; omega
        case rel => exact ⟨k + 1, out, l, A, n, c, by omega, rfl, by go_num, rfl, HRN.out⟩
      have HSK := Lib.hid (skip_not h0 h35)
      have hg0 : ¬ x[0] = 35 := by rw [← first_byte hx0]; exact h35
      have hg1 : ((x[0].toNat : Int) == 35) = false := by
        rw [beq_eq_false_iff_ne]
        intro e
        exact hg0 (UInt8.toNat_inj.1 (by have h : (35 : UInt8).toNat = 35 := rfl; omega))
      clear h35 h0
      have HLA := Lib.hid (fun W (h : Below w.heap.size w W) => line24_any x W (by have := HXZ.out; omega) (HE.out.below h) (HT.out.below h) (HM.out.below h))
      cases hlq : lineQ x with
      | none =>
        have HLC := Lib.hid (line_no (HLA.out wr HBR.out) hlq)
        unfold LineB at HLC
        by_cases h120 : 120 < x.size
        · have q2 : (120 : Int) < (x.size : Int) := by omega
          have HV : RowKit.Hid (readQ s = .wrong (k + 1) 4) := Lib.hid (by rw [HR.out.red, drop_at hkl, HXE.out, readL_bad2 HSK.out (by rw [lineC_noneS hlq, if_pos h120])])
          have HA := Lib.hid (fun W => At_any lineB ((k : Int) + 1) 4 W (by decide))
          go_wp2_with (first
            | (go_at_call 48; refine HLC.out.mono ?_; rintro er w2 ⟨A2, n2, c2, rfl, hb2⟩; have HB2 := Lib.hid (HBR.out.trans (hb2.mono HBR.out.size)); clear hb2)
            | (go_at_call 46; refine (HA.out _).mono ?_; rintro er w3 ⟨v, rfl, hch, hb3⟩; have HCH := Lib.hid hch; have HB3 := Lib.hid (HB2.out.trans (hb3.mono HB2.out.size)); clear hch hb3))
          go_ret2
          exact .inl ⟨k + 1, 4, v, HV.out, by decide, rfl, HCH.out.mono HB2.out.size, HB3.out⟩
        · have q2 : ¬ (120 : Int) < (x.size : Int) := by omega
          have HV : RowKit.Hid (readQ s = .wrong (k + 1) 17) := Lib.hid (by rw [HR.out.red, drop_at hkl, HXE.out, readL_bad2 HSK.out (by rw [lineC_noneS hlq, if_neg h120])])
          have HA := Lib.hid (fun W => At_any lineB ((k : Int) + 1) 17 W (by decide))
          go_wp2_with (first
            | (go_at_call 48; refine HLC.out.mono ?_; rintro er w2 ⟨A2, n2, c2, rfl, hb2⟩; have HB2 := Lib.hid (HBR.out.trans (hb2.mono HBR.out.size)); clear hb2)
            | (go_at_call 46; refine (HA.out _).mono ?_; rintro er w3 ⟨v, rfl, hch, hb3⟩; have HCH := Lib.hid hch; have HB3 := Lib.hid (HB2.out.trans (hb3.mono HB2.out.size)); clear hch hb3))
          go_ret2
          exact .inl ⟨k + 1, 17, v, HV.out, by decide, rfl, HCH.out.mono HB2.out.size, HB3.out⟩
      | some y =>
        have hy1 := lineQ_lenE hlq
        have HLC := Lib.hid (line_ok (HLA.out wr HBR.out) hlq)
        unfold LineG at HLC
        by_cases h120 : 120 < x.size
        · have q2 : (120 : Int) < (x.size : Int) := by omega
          have HV : RowKit.Hid (readQ s = .wrong (k + 1) 4) := Lib.hid (by rw [HR.out.red, drop_at hkl, HXE.out, readL_bad2 HSK.out (by rw [lineC_someS hlq, if_pos (.inl h120)])])
          have HA := Lib.hid (fun W => At_any lineB ((k : Int) + 1) 4 W (by decide))
          go_wp2_with (first
            | (go_at_call 48; refine HLC.out.mono ?_; rintro er w2 ⟨A2, c2, rfl, hev, hnil, hb2⟩; have HEV := Lib.hid hev; have HNL := Lib.hid hnil; have HLB := Lib.hid hb2; have HB2 := Lib.hid (HBR.out.trans (hb2.mono HBR.out.size)); clear hev hnil hb2)
            | (go_at_call 46; refine (HA.out _).mono ?_; rintro er w3 ⟨v, rfl, hch, hb3⟩; have HCH := Lib.hid hch; have HB3 := Lib.hid (HB2.out.trans (hb3.mono HB2.out.size)); clear hch hb3))
          go_ret2
          exact .inl ⟨k + 1, 4, v, HV.out, by decide, rfl, HCH.out.mono HB2.out.size, HB3.out⟩
        by_cases hbig : 16384 < out.length + y.length
        · have q2 : ¬ (120 : Int) < (x.size : Int) := by omega
          have q3 : (16384 : Int) - (n : Int) < (y.length : Int) := by have := HON.out; omega
          have q4 : IntKind.i64.wrap ((16384 : Int) - (n : Int)) = (16384 : Int) - (n : Int) := by exact IntWalk.i64_in _ (by have := HON.out; omega)
          have HV : RowKit.Hid (readQ s = .wrong (k + 1) 4) := Lib.hid (by rw [HR.out.red, drop_at hkl, HXE.out, readL_bad2 HSK.out (by rw [lineC_someS hlq, if_pos (.inr hbig)])])
          have HA := Lib.hid (fun W => At_any lineB ((k : Int) + 1) 4 W (by decide))
          go_wp2_with (first
            | (go_at_call 48; refine HLC.out.mono ?_; rintro er w2 ⟨A2, c2, rfl, hev, hnil, hb2⟩; have HEV := Lib.hid hev; have HNL := Lib.hid hnil; have HLB := Lib.hid hb2; have HB2 := Lib.hid (HBR.out.trans (hb2.mono HBR.out.size)); clear hev hnil hb2)
            | (go_at_call 46; refine (HA.out _).mono ?_; rintro er w3 ⟨v, rfl, hch, hb3⟩; have HCH := Lib.hid hch; have HB3 := Lib.hid (HB2.out.trans (hb3.mono HB2.out.size)); clear hch hb3))
          go_ret2
          exact .inl ⟨k + 1, 4, v, HV.out, by decide, rfl, HCH.out.mono HB2.out.size, HB3.out⟩
        have q2 : ¬ (120 : Int) < (x.size : Int) := by omega
        have q3 : ¬ (16384 : Int) - (n : Int) < (y.length : Int) := by have := HON.out; omega
        have q4 : IntKind.i64.wrap ((16384 : Int) - (n : Int)) = (16384 : Int) - (n : Int) := by exact IntWalk.i64_in _ (by have := HON.out; omega)
        have HCC : RowKit.Hid (¬ (120 < x.size ∨ 16384 < out.length + y.length)) := Lib.hid (by omega)
        have HLQ := Lib.hid hlq
        have hyl : n + y.length ≤ 16384 := by have := HON.out; omega
        clear hlq h120 hbig hkl HLA
        go_upto_region 13 with (go_at_call 48; refine HLC.out.mono ?_; rintro er w2 ⟨A2, c2, rfl, hev, hnil, hb2⟩; have HEV := Lib.hid hev; have HNL := Lib.hid hnil; have HLB := Lib.hid hb2; have HB2 := Lib.hid (HBR.out.trans (hb2.mono HBR.out.size)); clear hev hnil hb2)
        obtain ⟨r, hr1, hr2, hr3, hr4, hr5⟩ := HR.out.line HLB.out HEV.out
        have HR1 := Lib.hid hr1
        have HR2 := Lib.hid hr2
        have HR3 := Lib.hid hr3
        have HR4 := Lib.hid hr4
        have HR5 := Lib.hid hr5
        have hsz5 := hr5.size
        clear hr1 hr2 hr3 hr4 hr5 HLC
        generalize hyn : y.length = m at *
        have HYM := Lib.hid hyn
        clear hyn
        go_wp2_with (at_builtin; refine wpList_app2 rfl (.tmp 57) (.tmp 58) 61 74 rfl w1.heap.size (evV EvR.none) 9 104 Tryz.underlying61 ev_info rfl (by decide) A n c (rows l) rfl HR3.out A2 m c2 (rows r) rfl HNL.out (by rw [rows_length, HR1.out]; rfl) HR2.out (rows_one _) (n + m) rfl (rows (l ++ r)) (by rw [rows_append]) (by unfold maxLen; omega) (by omega) hsz5 ?_; intro A4 c4 w4 hown4 hg4 hb4 hw4; have HRN := Lib.hid (HR.out.app HKL.out HXE.out HSK.out HLQ.out HYM.out HCC.out HR1.out HR4.out HR5.out hown4 hg4 hb4 hw4); clear hown4 hg4 hb4 hw4)
        go_roundg (N - (k + 1))
        case measure => rw [HG.out]; omega
        case rel => exact ⟨k + 1, out ++ y, l ++ r, A4, n + m, c4, by omega, rfl, by go_num, rfl, HRN.out⟩
    · obtain rfl : k = N := by omega
      have r1 : ¬ (k : Int) < (k : Int) := by omega
      have HV : RowKit.Hid (readQ s = .right out) := Lib.hid (by rw [HR.out.red, List.drop_of_length_le (by rw [HN.out]; exact Nat.le_refl _)]; rfl)
      go_wp2_with fail
      go_ret2
      have hon := HON.out
      refine .inr ⟨out, A, c, HV.out, by rw [hon]; rfl, by rw [hon]; exact ⟨l, HR.out.len, own_rd HR.out.own, HR.out.evs.at_⟩, ?_, by rw [hon]; exact own_le HR.out.own, HR.out.sz, HBR.out⟩
      intro h
      rw [hon]
      exact ⟨(own_none HR.out.own h).1, (own_none HR.out.own h).2.1⟩

end Go.Proofs.YtalkllfgedacoaaGreatDoor

namespace Go.Proofs.YtalkllfgedacoaaGreatDoor
open Go.RowKit Go.Sort Go.Shelf

def SReadB (line code : Nat) (w : World) (e : Ending) (w' : World) : Prop := code ≠ 0 ∧ ∃ v : Value, e = .returned (.tuple #[.slice none 0 0, v]) ∧ Chain w.heap.size w' v [(lineB, (line : Int))] (code : Int) ∧ Below w.heap.size w w'
def SReadG (l : List Ev) (w : World) (e : Ending) (w' : World) : Prop := ∃ A c, e = .returned (.tuple #[.slice A l.length c, .nilIface]) ∧ EvsIn w' A l.length l ∧ (A = none → l.length = 0 ∧ c = 0) ∧ l.length ≤ c ∧ l.length ≤ 16384 ∧ Below w.heap.size w w'
theorem sread_wr {s : ByteArray} {w : World} {a b : Nat} (hz : s.size ≤ 281474976710656) (he : ErrT w) (ht : TabT w) (hm : MLT w) (h : readQ s = .wrong a b) : Calls Tryz.prog 21 #[.string s] w (SReadB a b w) :=
  (SRead_any s w hz he ht hm).mono fun e w' h' => by
    rcases h' with ⟨line, code, v, h1, h2, h3, h4, h5⟩ | ⟨l, A, c, h1, _⟩
    · rw [h] at h1
      injection h1 with e1 e2
      subst e1 e2
      exact ⟨h2, v, h3, h4, h5⟩
    · rw [h] at h1; cases h1
theorem sread_rt {s : ByteArray} {w : World} {l : List Ev} (hz : s.size ≤ 281474976710656) (he : ErrT w) (ht : TabT w) (hm : MLT w) (h : readQ s = .right l) : Calls Tryz.prog 21 #[.string s] w (SReadG l w) :=
  (SRead_any s w hz he ht hm).mono fun e w' h' => by
    rcases h' with ⟨line, code, v, h1, _⟩ | ⟨l', A, c, h1, h2⟩
    · rw [h] at h1; cases h1
    · rw [h] at h1
      injection h1 with e1
      subst e1
      exact ⟨A, c, h2⟩

theorem nil_app (x : ByteArray) : (⟨#[]⟩ : ByteArray) ++ x = x := bext (by rw [app_list]; rfl)
theorem app_nil (x : ByteArray) : x ++ (⟨#[]⟩ : ByteArray) = x := bext (by rw [app_list]; simp)
/-- What stands while a text is written. -/
structure TxS (l rest : List Ev) (T : ByteArray) (A : Option Addr) (m c : Nat) (w wr : World) : Prop where
  evw : ∀ W, Below w.heap.size w W → EvsIn W A m rest
  cap : m ≤ c
  all : ∀ e ∈ rest, EvIn e ∧ EvSm e
  txt : T ++ textG rest = textG l
  sz : T.size ≤ 65536
  bld : Lib.IsBuilder 116 5 w.heap.size w.heap.size (Lib.byteCells T.data.toList) wr
  bel : Below w.heap.size w wr
theorem TxS.evs {l rest : List Ev} {T : ByteArray} {A : Option Addr} {m c : Nat} {w wr : World} (h : TxS l rest T A m c w wr) : EvsIn wr A m rest := h.evw wr h.bel

set_option maxHeartbeats 8000000 in
set_option maxRecDepth 100000 in
theorem Text24_any (A : Option Addr) (n c : Nat) (l : List Ev) (w : World) (hn : n ≤ 1048576) (hnc : n ≤ c) (hA : EvsIn w A n l) (hi : ∀ e ∈ l, EvIn e ∧ EvSm e) (he : ErrT w) (ht : TabT w) (hm : MLT w) :
    Calls Tryz.prog 29 #[.slice A n c] w fun e w' => e = .returned (.tuple #[.string ((textP l).getD ⟨#[]⟩), .bool (textP l).isSome]) ∧ Below w.heap.size w w' := by
  have HE := Lib.hid he
  have HT := Lib.hid ht
  have HM := Lib.hid hm
  have HI := Lib.hid hi
  have HA := Lib.hid hA
  have HB0 := Lib.hid ((Below.refl w.heap.size w).alloc (Nat.le_refl _) (.cells #[.pointer none, .slice none 0 0] 116))
  have HS0 : RowKit.Hid (TxS l l ⟨#[]⟩ A n c w (w.alloc (.cells #[.pointer none, .slice none 0 0] 116))) := Lib.hid
    ⟨fun W h => hA.below h, hnc, hi, nil_app _, Nat.zero_le _, bld_new w, HB0.out⟩
  clear he ht hm hi hA
  go_enter Tryz.func29, Tryz.ntmps29
  go_upto_region 2 with (fail)
  generalize w.alloc (.cells #[.pointer none, .slice none 0 0] 116) = W0 at *
  go_wp2_with fail
  go_loopg [5] n (fun gg v wr => ∃ (rest : List Ev) (T : ByteArray) (A' : Option Addr) (m c' : Nat), gg = m ∧ v = .slice A' m c' ∧ m ≤ 1048576 ∧ TxS l rest T A' m c' w wr)
  case atStart => exact ⟨l, ⟨#[]⟩, A, n, c, rfl, rfl, hn, HS0.out⟩
  case round =>
    obtain ⟨rest, T, A', m, c', hg, rfl, hm1, hs⟩ := hrel
    have HG := Lib.hid hg
    have HS := Lib.hid hs
    have hlen := hs.evs.len
    have hcap := hs.cap
    have HBW := Lib.hid hs.bel
    clear hg hs HS0
    by_cases h0 : m = 0
    · have q0 : ¬ (0 : Int) < (m : Int) := by omega
      have q0n : ¬ 0 < m := by omega
      have hr0 : rest = [] := List.eq_nil_of_length_eq_zero (by omega)
      have HTX : RowKit.Hid (T = textG l) := Lib.hid (by have h := HS.out.txt; rw [hr0, textG_nil, app_nil] at h; exact h)
      have hTs := HS.out.sz
      have HB := Lib.hid (Lib.IsBuilderF.of HS.out.bld)
      have HSB : RowKit.Hid ((textG l).size ≤ 65536) := Lib.hid (by rw [← HTX.out]; exact hTs)
      clear h0 hr0 hlen
      have HST := Lib.hid (fun W h1 h2 => bld_str w.heap.size T W h1 h2)
      have ST1 : True := trivial
      cases hrd : readQ (textG l) with
      | wrong a b =>
        have HV := Lib.hid (textP_wrong hrd)
        have HRD := Lib.hid (fun W (h : Below w.heap.size w W) => sread_wr (s := T) (w := W) (by omega) (HE.out.below h) (HT.out.below h) (HM.out.below h) (by rw [HTX.out]; exact hrd))
        unfold SReadB at HRD
        clear hrd
        go_wp2_with (first
          | (go_at_call 59; have _t := ST1; refine (HST.out wr HB.out HBW.out.size).mono ?_; rintro er w2 ⟨rfl, hf2, hb2⟩; have HB2 := Lib.hid (HBW.out.trans hb2); clear ST1 hf2 hb2)
          | (go_at_call 21; refine (HRD.out w2 HB2.out).mono ?_; rintro er w3 ⟨_, v, rfl, ⟨gg, vv, rfl, _⟩, hb3⟩; have HBE := Lib.hid (HB2.out.trans (hb3.mono HB2.out.size)); clear hb3))
        go_ret2
        exact ⟨by rw [HV.out]; rfl, HBE.out⟩
      | right y =>
        have HRD := Lib.hid (fun W (h : Below w.heap.size w W) => sread_rt (s := T) (w := W) (by omega) (HE.out.below h) (HT.out.below h) (HM.out.below h) (by rw [HTX.out]; exact hrd))
        unfold SReadG at HRD
        have HYS := Lib.hid (readQ_small hrd)
        have hyl : y.length ≤ 16384 := readQ_len hrd
        by_cases hyl2 : y = l
        · have HV : RowKit.Hid (textP l = some T) := Lib.hid (by rw [HTX.out]; exact textP_right (by rw [hrd, hyl2]) HSB.out)
          have HEQ : RowKit.Hid (∀ W Y cy, Below w.heap.size w W → EvsIn W Y y.length y → Calls Tryz.prog 60 #[.slice Y y.length cy, .slice A n c, .func (.func 27) #[] #[]] W fun e w' => e = .returned (.bool true) ∧ Below W.heap.size W w') := Lib.hid (fun W Y cy h hy => (EqFunc_any Y A y.length n cy c y l W (by omega) hn hy (HA.out.below h) HYS.out (fun e he => (HI.out e he).2)).mono fun e w' h' => by rw [decide_eq_true hyl2] at h'; exact h')
          clear hrd hyl2
          go_wp2_with (first
            | (go_at_call 59; have _t := ST1; refine (HST.out wr HB.out HBW.out.size).mono ?_; rintro er w2 ⟨rfl, hf2, hb2⟩; have HB2 := Lib.hid (HBW.out.trans hb2); have HF2 := Lib.hid hf2; clear ST1 hf2 hb2)
            | (go_at_call 21; refine (HRD.out w2 HB2.out).mono ?_; rintro er w3 ⟨Y, cy, rfl, hy, _, _, _, hb3⟩; have HY := Lib.hid hy; have HB3 := Lib.hid (HB2.out.trans (hb3.mono HB2.out.size)); have HF3 := Lib.hid (bldF_below HF2.out hb3); clear hy hb3)
            | (go_at_call 60; refine (HEQ.out w3 Y cy HB3.out HY.out).mono ?_; rintro er w4 ⟨rfl, hb4⟩; have HB4 := Lib.hid (HB3.out.trans (hb4.mono HB3.out.size)); have HF4 := Lib.hid (bldF_below HF3.out hb4); clear hb4)
            | (go_at_call 59; refine (HST.out w4 HF4.out HB4.out.size).mono ?_; rintro er w5 ⟨rfl, _, hb5⟩; have HBE := Lib.hid (HB4.out.trans hb5); clear hb5))
          go_ret2
          exact ⟨by rw [HV.out]; rfl, HBE.out⟩
        · have HV := Lib.hid (textP_other hrd hyl2)
          have HEQ : RowKit.Hid (∀ W Y cy, Below w.heap.size w W → EvsIn W Y y.length y → Calls Tryz.prog 60 #[.slice Y y.length cy, .slice A n c, .func (.func 27) #[] #[]] W fun e w' => e = .returned (.bool false) ∧ Below W.heap.size W w') := Lib.hid (fun W Y cy h hy => (EqFunc_any Y A y.length n cy c y l W (by omega) hn hy (HA.out.below h) HYS.out (fun e he => (HI.out e he).2)).mono fun e w' h' => by rw [decide_eq_false hyl2] at h'; exact h')
          clear hrd hyl2
          go_wp2_with (first
            | (go_at_call 59; refine (HST.out wr HB.out HBW.out.size).mono ?_; rintro er w2 ⟨rfl, hf2, hb2⟩; have HB2 := Lib.hid (HBW.out.trans hb2); clear hf2 hb2)
            | (go_at_call 21; refine (HRD.out w2 HB2.out).mono ?_; rintro er w3 ⟨Y, cy, rfl, hy, _, _, _, hb3⟩; have HY := Lib.hid hy; have HB3 := Lib.hid (HB2.out.trans (hb3.mono HB2.out.size)); clear hy hb3)
            | (go_at_call 60; refine (HEQ.out w3 Y cy HB3.out HY.out).mono ?_; rintro er w4 ⟨rfl, hb4⟩; have HBE := Lib.hid (HB3.out.trans (hb4.mono HB3.out.size)); clear hb4))
          go_ret2
          exact ⟨by rw [HV.out]; rfl, HBE.out⟩
    · have q0 : (0 : Int) < (m : Int) := by omega
      have q0n : 0 < m := by omega
      cases rest with
      | nil => exfalso; simp at hlen; omega
      | cons e r =>
        have hA' : ∃ b o, A' = some ⟨b, o, none⟩ := by
          obtain ⟨la, h1, h2, h3⟩ := HS.out.evs.ex
          obtain ⟨b, o, h4, _⟩ := h2.at_ (by rw [rows_length, h1]; exact Nat.mul_pos q0n (by decide))
          exact ⟨b, o, h4⟩
        obtain ⟨b, o, rfl⟩ := hA'
        have hgi := grpQ_in e r
        have hrl : r.length + 1 = m := by rw [← hlen]; simp
        have hei := HS.out.all e (List.mem_cons_self ..)
        have hsz := evS_size (n := grpQ (e :: r)) hei.1 hgi.2.2
        have HSAY := Lib.hid (say_any (some ⟨b, o, none⟩) m c' e r wr hm1 HS.out.evs hei.1 (fun x hx => (HS.out.all x hx).2) (HE.out.below HBW.out) (HT.out.below HBW.out) (HM.out.below HBW.out))
        have HTF := Lib.hid (text_first HS.out.txt)
        have HCU := Lib.hid (fun W (h : Below w.heap.size w W) => (HS.out.evw W h).cut (k := grpQ (e :: r)) (c := c') (by omega) hcap)
        have HALL : RowKit.Hid (∀ x ∈ (e :: r).drop (grpQ (e :: r)), EvIn x ∧ EvSm x) := Lib.hid (fun x hx => HS.out.all x (List.mem_of_mem_drop hx))
        have HTS := HS.out.sz
        have HBD := Lib.hid HS.out.bld
        generalize hgq : grpQ (e :: r) = g at *
        generalize evS e g = s at *
        generalize (e :: r).drop g = rest' at *
        have d0 : ¬ 9223372036854775807 < s.size + 1 := by omega
        have hs1 : (s ++ ⟨#[10]⟩ : ByteArray).size = s.size + 1 := by rw [ByteArray.size_append]; rfl
        have HWR := Lib.hid (fun W h1 h2 => write_any w.heap.size T (s ++ ⟨#[10]⟩) W h1 h2 (by omega) (by omega))
        have HLN := Lib.hid (fun W h1 => bld_len w.heap.size (T ++ (s ++ ⟨#[10]⟩)) W h1)
        have hts : (T ++ (s ++ ⟨#[10]⟩) : ByteArray).size = T.size + (s.size + 1) := by rw [ByteArray.size_append, hs1]
        have HTS2 := Lib.hid hts
        have p1 : (0 : Int) ≤ (g : Int) := by omega
        have p2 : (g : Int) ≤ (m : Int) := by omega
        have p3 : (g : Int) ≤ (c' : Int) := by omega
        have p2n : g ≤ m := by omega
        have p3n : g ≤ c' := by omega
        clear hs1 hts hgq hei hsz HS hlen
        rw [HTS2.out] at HLN
        generalize T.size + (s.size + 1) = TS at *
        by_cases hbig : 65536 < TS
        · have HV := Lib.hid (textP_big (text_big HTF.out (by rw [HTS2.out]; exact hbig)))
          have q1 : (65536 : Int) < (TS : Int) := by omega
          clear hbig
          go_wp2_with (first
            | (go_at_call 56; refine HSAY.out.mono ?_; rintro er w2 ⟨rfl, hb2⟩; have HB2 := Lib.hid (HBW.out.trans (hb2.mono HBW.out.size)); have HBD2 := Lib.hid (bld_below HBD.out hb2); clear hb2)
            | (go_at_call 57; refine (HWR.out w2 HBD2.out HB2.out.size).mono ?_; rintro er w3 ⟨⟨N, rfl⟩, hd3, hb3⟩; have HB3 := Lib.hid (HB2.out.trans hb3); have HBD3 := Lib.hid hd3; clear hd3 hb3)
            | (go_at_call 58; refine (HLN.out w3 HBD3.out).mono ?_; rintro er w4 ⟨rfl, hw4⟩; subst hw4))
          all_goals
            go_ret2
            exact ⟨by rw [HV.out]; rfl, HB3.out⟩
        · have q1 : ¬ (65536 : Int) < (TS : Int) := by omega
          have HSZ : RowKit.Hid ((T ++ (s ++ ⟨#[10]⟩) : ByteArray).size ≤ 65536) := Lib.hid (by rw [HTS2.out]; omega)
          have hm2 : m - g ≤ 1048576 := by omega
          by_cases hcg : c' = g
          · have HC1 : RowKit.Hid (∀ W, Below w.heap.size w W → EvsIn W (some ⟨b, o, none⟩) 0 rest') := Lib.hid (fun W h => by
              have hc := HCU.out W h
              rw [if_pos hcg, show m - g = 0 by omega] at hc
              exact hc)
            have HMG : RowKit.Hid (0 < m) := Lib.hid q0n
            have c0 : c' - g = 0 := by omega
            have m0 : m - g = 0 := by omega
            clear HCU hcg hm2
            go_wp2_with (first
              | (go_at_call 56; refine HSAY.out.mono ?_; rintro er w2 ⟨rfl, hb2⟩; have HB2 := Lib.hid (HBW.out.trans (hb2.mono HBW.out.size)); have HBL2 := Lib.hid hb2; have HBD2 := Lib.hid (bld_below HBD.out hb2); clear hb2)
              | (go_at_call 57; refine (HWR.out w2 HBD2.out HB2.out.size).mono ?_; rintro er w3 ⟨⟨N, rfl⟩, hd3, hb3⟩; have HB3 := Lib.hid (HB2.out.trans hb3); have HBD3 := Lib.hid hd3; clear hd3 hb3)
              | (go_at_call 58; refine (HLN.out w3 HBD3.out).mono ?_; rintro er w4 ⟨rfl, hw4⟩; subst hw4))
            go_roundg 0
            case measure => rw [HG.out]; exact HMG.out
            case rel => exact ⟨rest', T ++ (s ++ ⟨#[10]⟩), some ⟨b, o, none⟩, 0, 0, rfl, rfl, Nat.zero_le _, HC1.out, Nat.le_refl _, HALL.out, HTF.out, HSZ.out, HBD3.out, HB3.out⟩
          · have HC1 : RowKit.Hid (∀ W, Below w.heap.size w W → EvsIn W (some ⟨b, o + g * 9, none⟩) (m - g) rest') := Lib.hid (fun W h => by
              have hc := HCU.out W h
              rw [if_neg hcg] at hc
              exact hc)
            have HMG : RowKit.Hid (m - g < m) := Lib.hid (by omega)
            have HM2 := Lib.hid hm2
            have HCM : RowKit.Hid (m - g ≤ c' - g) := Lib.hid (by omega)
            have q5 : ¬ c' - g = 0 := by omega
            clear HCU hm2
            go_wp2_with (first
              | (go_at_call 56; refine HSAY.out.mono ?_; rintro er w2 ⟨rfl, hb2⟩; have HB2 := Lib.hid (HBW.out.trans (hb2.mono HBW.out.size)); have HBL2 := Lib.hid hb2; have HBD2 := Lib.hid (bld_below HBD.out hb2); clear hb2)
              | (go_at_call 57; refine (HWR.out w2 HBD2.out HB2.out.size).mono ?_; rintro er w3 ⟨⟨N, rfl⟩, hd3, hb3⟩; have HB3 := Lib.hid (HB2.out.trans hb3); have HBD3 := Lib.hid hd3; clear hd3 hb3)
              | (go_at_call 58; refine (HLN.out w3 HBD3.out).mono ?_; rintro er w4 ⟨rfl, hw4⟩; subst hw4))
            go_roundg (m - g)
            case measure => rw [HG.out]; exact HMG.out
            case rel => exact ⟨rest', T ++ (s ++ ⟨#[10]⟩), some ⟨b, o + g * 9, none⟩, m - g, c' - g, rfl, rfl, HM2.out, HC1.out, HCM.out, HALL.out, HTF.out, HSZ.out, HBD3.out, HB3.out⟩

end Go.Proofs.YtalkllfgedacoaaGreatDoor

namespace Go.Proofs.YtalkllfgedacoaaGreatDoor
open Go.RowKit Go.Sort Go.Extern.Stop Go.Stop Go.Extern

/-- errors' own variable: the type of errors. -/
abbrev rtV (t : TypeId) : Value := .iface 189 (.agg #[.pointer (some ⟨9, t, none⟩)])
def EtT (w : World) : Prop := 0 < w.heap.size ∧ w.cell? ⟨0, 0, none⟩ = some (rtV 63)
theorem EtT.below {w w' : World} (h : EtT w) (hb : Below w.heap.size w w') : EtT w' := ⟨Nat.lt_of_lt_of_le h.1 hb.size, by rw [hb.cell (p := ⟨0, 0, none⟩) h.1]; exact h.2⟩

/-! ### Closed facts on the model's entries -/

theorem methodKind (n : Nat) (h : Value) (w : World) : (Go.method (n + 1) 189 (.agg #[h]) "Kind").run Tryz.prog w = .ok (204, h) w := by kernel_rfl
theorem methodElem (n : Nat) (h : Value) (w : World) : (Go.method (n + 1) 189 (.agg #[h]) "Elem").run Tryz.prog w = .ok (217, .agg #[h]) w := by kernel_rfl
theorem methodImplements (n : Nat) (h : Value) (w : World) : (Go.method (n + 1) 189 (.agg #[h]) "Implements").run Tryz.prog w = .ok (218, .agg #[h]) w := by kernel_rfl
theorem methodAssignable (n : Nat) (h : Value) (w : World) : (Go.method (n + 1) 189 (.agg #[h]) "AssignableTo").run Tryz.prog w = .ok (215, .agg #[h]) w := by kernel_rfl
theorem rlm (z : Sem Value) (f : TypeId → Addr → Nat → Nat → Sem Value) (v : Value) :
    ReflectliteValue.method z f #[v] = (do match ← ReflectliteValue.parts v with | none => z | some (t, a, fl) => f t a fl (fl % 32)) := rfl
theorem rls (v x : Value) : ReflectliteValue.set #[v, x] = (do
    let (some (dst, a, fl), some (src, b, _)) := (← ReflectliteValue.parts v, ← ReflectliteValue.parts x)
      | unsupported (.noEntry "extern/(internal/reflectlite.Value).Set.zeroValue")
    if fl / ReflectliteValue.flagAddr % 2 == 0 then unsupported (.noEntry "extern/(internal/reflectlite.Value).Set.unaddressable")
    let val ← loadVar src b
    if ← Rtype.directlyAssignable dst src then storeVar dst a val
    else if ← Rtype.implements dst src then
      if (← Rtype.kind src) == 20 then
        match val with
        | .nilIface => unsupported (.noEntry "extern/reflectlite: a nil value of one interface type handed on as a value of another")
        | _ => storeVar dst a val
      else storeVar dst a (.iface src val)
    else panicString ("reflectlite.Set: value of type " ++ (← Rtype.spelt src) ++ " is not assignable to type " ++ (← Rtype.spelt dst))
    pure (.tuple #[])) := rfl

theorem tF_valueOf (t : Addr) (w : World) : (ReflectliteValue.unpack (.iface 106 (.pointer (some t)))).run Tryz.prog w
    = .ok (.agg #[.pointer (some ⟨9, 106, none⟩), .pointer (some ⟨w.heap.size, 0, none⟩), .int .u64 150]) (w.alloc (.cells #[.pointer (some t)] 106)) := by kernel_rfl
theorem tF_type (a : Addr) (w : World) : (ReflectliteValue.methodAny (ReflectliteValue.valueError "reflectlite.Value.Type" 0) (fun t _ _ _ => ReflectliteType.toType t) #[.agg #[.pointer (some ⟨9, 106, none⟩), .pointer (some a), .int .u64 150]]).run Tryz.prog w
    = .ok (rtV 106) w := by kernel_rfl
theorem tF_kindP (w : World) : ((ReflectliteType.abiMethod fun t => (fun a : Nat => Value.int IntKind.u8 (a : Int)) <$> Rtype.kind t) #[.pointer (some ⟨9, 106, none⟩)]).run Tryz.prog w = .ok (.int .u8 22) w := by kernel_rfl
theorem tF_kindE (w : World) : ((ReflectliteType.abiMethod fun t => (fun a : Nat => Value.int IntKind.u8 (a : Int)) <$> Rtype.kind t) #[.pointer (some ⟨9, 105, none⟩)]).run Tryz.prog w = .ok (.int .u8 22) w := by kernel_rfl
theorem tF_parts (a : Addr) (w : World) : (ReflectliteValue.parts (.agg #[.pointer (some ⟨9, 106, none⟩), .pointer (some a), .int .u64 150])).run Tryz.prog w = .ok (some (106, a, 150)) w := by kernel_rfl
theorem tF_isNil (a p : Addr) (W : World) (ha : W.cell? a = some (.pointer (some p))) :
    (ReflectliteValue.method (ReflectliteValue.valueError "reflectlite.Value.IsNil" 0) ReflectliteValue.isNil #[.agg #[.pointer (some ⟨9, 106, none⟩), .pointer (some a), .int .u64 150]]).run Tryz.prog W = .ok (.bool false) W := by
  rw [rlm]
  simp only [Sem.run_bind, tF_parts, Result.andThen]
  simp [ReflectliteValue.isNil, loadVar, isAgg, underlying, Tryz.underlying106, ha, Result.andThen]
theorem tF_elemT (w : World) : (ReflectliteType.method ReflectliteType.elem #[.agg #[.pointer (some ⟨9, 106, none⟩)]]).run Tryz.prog w = .ok (rtV 105) w := by kernel_rfl
theorem tF_implements (w : World) : (ReflectliteType.relation "Implements" ReflectliteType.implements_ #[.agg #[.pointer (some ⟨9, 105, none⟩)], rtV 63]).run Tryz.prog w = .ok (.bool true) w := by kernel_rfl
theorem tF_elemOf (w : World) : (Rtype.elem? 106).run Tryz.prog w = .ok (some 105) w := by kernel_rfl
theorem tF_mk (p : Addr) (w : World) : (ReflectliteValue.mk 105 p ReflectliteValue.flagAddr).run Tryz.prog w = .ok (.agg #[.pointer (some ⟨9, 105, none⟩), .pointer (some p), .int .u64 406]) w := by kernel_rfl
theorem tF_elemV (a p : Addr) (W : World) (ha : W.cell? a = some (.pointer (some p))) :
    (ReflectliteValue.method (ReflectliteValue.valueError "reflectlite.Value.Elem" 0) ReflectliteValue.elem #[.agg #[.pointer (some ⟨9, 106, none⟩), .pointer (some a), .int .u64 150]]).run Tryz.prog W
      = .ok (.agg #[.pointer (some ⟨9, 105, none⟩), .pointer (some p), .int .u64 406]) W := by
  rw [rlm]
  simp only [Sem.run_bind, tF_parts, Result.andThen]
  simp [ReflectliteValue.elem, loadVar, isAgg, underlying, Tryz.underlying106, ha, Result.andThen, tF_elemOf, tF_mk]
theorem tF_partsA (a : Addr) (w : World) : (ReflectliteValue.parts (.agg #[.pointer (some ⟨9, 105, none⟩), .pointer (some a), .int .u64 406])).run Tryz.prog w = .ok (some (105, a, 406)) w := by kernel_rfl
theorem tF_partsB (a : Addr) (w : World) : (ReflectliteValue.parts (.agg #[.pointer (some ⟨9, 105, none⟩), .pointer (some a), .int .u64 150])).run Tryz.prog w = .ok (some (105, a, 150)) w := by kernel_rfl
theorem tF_direct (w : World) : (Rtype.directlyAssignable 105 105).run Tryz.prog w = .ok true w := by kernel_rfl

theorem tE_valueOf (t : Addr) (w : World) : (ReflectliteValue.unpack (.iface 104 (.pointer (some t)))).run Tryz.prog w
    = .ok (.agg #[.pointer (some ⟨9, 104, none⟩), .pointer (some ⟨w.heap.size, 0, none⟩), .int .u64 150]) (w.alloc (.cells #[.pointer (some t)] 104)) := by kernel_rfl
theorem tE_type (a : Addr) (w : World) : (ReflectliteValue.methodAny (ReflectliteValue.valueError "reflectlite.Value.Type" 0) (fun t _ _ _ => ReflectliteType.toType t) #[.agg #[.pointer (some ⟨9, 104, none⟩), .pointer (some a), .int .u64 150]]).run Tryz.prog w
    = .ok (rtV 104) w := by kernel_rfl
theorem tE_kindP (w : World) : ((ReflectliteType.abiMethod fun t => (fun a : Nat => Value.int IntKind.u8 (a : Int)) <$> Rtype.kind t) #[.pointer (some ⟨9, 104, none⟩)]).run Tryz.prog w = .ok (.int .u8 22) w := by kernel_rfl
theorem tE_kindE (w : World) : ((ReflectliteType.abiMethod fun t => (fun a : Nat => Value.int IntKind.u8 (a : Int)) <$> Rtype.kind t) #[.pointer (some ⟨9, 34, none⟩)]).run Tryz.prog w = .ok (.int .u8 2) w := by kernel_rfl
theorem tE_parts (a : Addr) (w : World) : (ReflectliteValue.parts (.agg #[.pointer (some ⟨9, 104, none⟩), .pointer (some a), .int .u64 150])).run Tryz.prog w = .ok (some (104, a, 150)) w := by kernel_rfl
theorem tE_isNil (a p : Addr) (W : World) (ha : W.cell? a = some (.pointer (some p))) :
    (ReflectliteValue.method (ReflectliteValue.valueError "reflectlite.Value.IsNil" 0) ReflectliteValue.isNil #[.agg #[.pointer (some ⟨9, 104, none⟩), .pointer (some a), .int .u64 150]]).run Tryz.prog W = .ok (.bool false) W := by
  rw [rlm]
  simp only [Sem.run_bind, tE_parts, Result.andThen]
  simp [ReflectliteValue.isNil, loadVar, isAgg, underlying, Tryz.underlying104, ha, Result.andThen]
theorem tE_elemT (w : World) : (ReflectliteType.method ReflectliteType.elem #[.agg #[.pointer (some ⟨9, 104, none⟩)]]).run Tryz.prog w = .ok (rtV 34) w := by kernel_rfl
theorem tE_implements (w : World) : (ReflectliteType.relation "Implements" ReflectliteType.implements_ #[.agg #[.pointer (some ⟨9, 34, none⟩)], rtV 63]).run Tryz.prog w = .ok (.bool true) w := by kernel_rfl
theorem tE_elemOf (w : World) : (Rtype.elem? 104).run Tryz.prog w = .ok (some 34) w := by kernel_rfl
theorem tE_mk (p : Addr) (w : World) : (ReflectliteValue.mk 34 p ReflectliteValue.flagAddr).run Tryz.prog w = .ok (.agg #[.pointer (some ⟨9, 34, none⟩), .pointer (some p), .int .u64 386]) w := by kernel_rfl
theorem tE_elemV (a p : Addr) (W : World) (ha : W.cell? a = some (.pointer (some p))) :
    (ReflectliteValue.method (ReflectliteValue.valueError "reflectlite.Value.Elem" 0) ReflectliteValue.elem #[.agg #[.pointer (some ⟨9, 104, none⟩), .pointer (some a), .int .u64 150]]).run Tryz.prog W
      = .ok (.agg #[.pointer (some ⟨9, 34, none⟩), .pointer (some p), .int .u64 386]) W := by
  rw [rlm]
  simp only [Sem.run_bind, tE_parts, Result.andThen]
  simp [ReflectliteValue.elem, loadVar, isAgg, underlying, Tryz.underlying104, ha, Result.andThen, tE_elemOf, tE_mk]
theorem tE_partsA (a : Addr) (w : World) : (ReflectliteValue.parts (.agg #[.pointer (some ⟨9, 34, none⟩), .pointer (some a), .int .u64 386])).run Tryz.prog w = .ok (some (34, a, 386)) w := by kernel_rfl
theorem tE_partsB (a : Addr) (w : World) : (ReflectliteValue.parts (.agg #[.pointer (some ⟨9, 34, none⟩), .pointer (some a), .int .u64 130])).run Tryz.prog w = .ok (some (34, a, 130)) w := by kernel_rfl
theorem tE_direct (w : World) : (Rtype.directlyAssignable 34 34).run Tryz.prog w = .ok true w := by kernel_rfl

theorem typeOfF (v : Value) (w : World) : (ReflectliteType.typeOf #[.iface 105 v]).run Tryz.prog w = .ok (rtV 105) w := by kernel_rfl
theorem typeOfE (v : Value) (w : World) : (ReflectliteType.typeOf #[.iface 34 v]).run Tryz.prog w = .ok (rtV 34) w := by kernel_rfl
theorem asgFF (w : World) : (ReflectliteType.relation "AssignableTo" ReflectliteType.assignableTo #[.agg #[.pointer (some ⟨9, 105, none⟩)], rtV 105]).run Tryz.prog w = .ok (.bool true) w := by kernel_rfl
theorem asgEE (w : World) : (ReflectliteType.relation "AssignableTo" ReflectliteType.assignableTo #[.agg #[.pointer (some ⟨9, 34, none⟩)], rtV 34]).run Tryz.prog w = .ok (.bool true) w := by kernel_rfl
theorem asgEF (w : World) : (ReflectliteType.relation "AssignableTo" ReflectliteType.assignableTo #[.agg #[.pointer (some ⟨9, 34, none⟩)], rtV 105]).run Tryz.prog w = .ok (.bool false) w := by kernel_rfl
theorem asgFE (w : World) : (ReflectliteType.relation "AssignableTo" ReflectliteType.assignableTo #[.agg #[.pointer (some ⟨9, 105, none⟩)], rtV 34]).run Tryz.prog w = .ok (.bool false) w := by kernel_rfl
theorem valueOfF (e : Addr) (w : World) : (ReflectliteValue.unpack (.iface 105 (.pointer (some e)))).run Tryz.prog w
    = .ok (.agg #[.pointer (some ⟨9, 105, none⟩), .pointer (some ⟨w.heap.size, 0, none⟩), .int .u64 150]) (w.alloc (.cells #[.pointer (some e)] 105)) := by kernel_rfl
theorem valueOfE (e : Int) (w : World) : (ReflectliteValue.unpack (errnoV e)).run Tryz.prog w
    = .ok (.agg #[.pointer (some ⟨9, 34, none⟩), .pointer (some ⟨w.heap.size, 0, none⟩), .int .u64 130]) (w.alloc (.cells #[.int .i64 e] 34)) := by kernel_rfl
theorem setF (ta b e : Addr) (old : Value) (W : World) (hb : W.cell? b = some (.pointer (some e))) (ht : W.cell? ta = some old) (hf : W.frozen? ta = false) :
    (ReflectliteValue.set #[.agg #[.pointer (some ⟨9, 105, none⟩), .pointer (some ta), .int .u64 406], .agg #[.pointer (some ⟨9, 105, none⟩), .pointer (some b), .int .u64 150]]).run Tryz.prog W
      = .ok (.tuple #[]) (W.setCell ta (.pointer (some e))) := by
  rw [rls]
  simp only [Sem.run_bind, tF_partsA, tF_partsB, Result.andThen]
  simp [ReflectliteValue.flagAddr, loadVar, isAgg, underlying, Tryz.underlying105, hb, Result.andThen, tF_direct, storeVar, Value.cells, storeCells, Addr.add]
  rw [run_store Tryz.prog W ta _ _ (by rfl)]
  simp [ht, hf]
theorem setE (ta b : Addr) (e : Int) (old : Value) (W : World) (hb : W.cell? b = some (.int .i64 e)) (ht : W.cell? ta = some old) (hf : W.frozen? ta = false) :
    (ReflectliteValue.set #[.agg #[.pointer (some ⟨9, 34, none⟩), .pointer (some ta), .int .u64 386], .agg #[.pointer (some ⟨9, 34, none⟩), .pointer (some b), .int .u64 130]]).run Tryz.prog W
      = .ok (.tuple #[]) (W.setCell ta (.int .i64 e)) := by
  rw [rls]
  simp only [Sem.run_bind, tE_partsA, tE_partsB, Result.andThen]
  simp [ReflectliteValue.flagAddr, loadVar, isAgg, underlying, Tryz.underlying34, hb, Result.andThen, tE_direct, storeVar, Value.cells, storeCells, Addr.add]
  rw [run_store Tryz.prog W ta _ _ (by rfl)]
  simp [ht, hf]

theorem noAsF (v : Value) (xT : TypeId) (w : World) : (Instr.typeAssert (.iface 105 v) xT 194 true).run Tryz.prog w = .ok (.tuple #[.nilIface, .bool false]) w := run_typeAssert_lacksB Tryz.underlying194 (by kernel_rfl) (by kernel_rfl) v xT w
theorem noAsE (v : Value) (xT : TypeId) (w : World) : (Instr.typeAssert (.iface 34 v) xT 194 true).run Tryz.prog w = .ok (.tuple #[.nilIface, .bool false]) w := run_typeAssert_lacksB Tryz.underlying194 (by kernel_rfl) (by kernel_rfl) v xT w

end Go.Proofs.YtalkllfgedacoaaGreatDoor
