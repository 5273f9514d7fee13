/- Memory that is written in some blocks alone: what stays. -/
import Derived.Test.YtalkllfgedacoaaGreatDoorD13
import Derived.Test.YtalkllfgedacoaaGreatDoorD3
import Derived.Test.YtalkllfgedacoaaGreatDoorD14
import Derived.Test.YtalkllfgedacoaaGreatDoorD11
import Derived.Great.BuildSlice
import Derived.Deep.RegionHeld3
import Derived.Test.YtalkllfgedacoaaGreatDoorD2
namespace Go.Proofs.YtalkllfgedacoaaGreatDoor
open Go.RowKit Go.Sort

def rone24No (s : ByteArray) (w : World) (e : Ending) (w' : World) : Prop := caseQ s = none ∧ e = .returned (.tuple #[cseV Cse.none, .bool false]) ∧ Below w.heap.size w w'
def rone24Ok (s : ByteArray) (w : World) (e : Ending) (w' : World) : Prop := ∃ k, caseQ s = some k ∧ e = .returned (.tuple #[cseV k, .bool true]) ∧ Below w.heap.size w w'

set_option maxHeartbeats 16000000 in
set_option maxRecDepth 100000 in
theorem rone24_any (s : ByteArray) (w : World) (hs : s.size ≤ 1073741824) :
    Calls Tryz.prog 140 #[.string s] w fun e w' => rone24No s w e w' ∨ rone24Ok s w e w' := by
  have HSP := Lib.hid (fun W (_ : True) => (show Calls Tryz.prog 49 #[.string s, .int .u8 58] W (SplitPost 58 s W) from rSplitC_any 58 s W (by omega)))
  have hwp : 0 < (wordsC 58 s).length := by rw [wordsC_len]; omega
  have hwl := wordsC_le 58 s
  have HWZ := Lib.hid (wordsC_size 58 s)
  have HQ : RowKit.Hid (caseQ s = match numsQ 4294967295 (wordsC 58 s).tail with
    | none => none
    | some n => caseN ((wordsC 58 s).getD 0 ⟨#[]⟩) n) := Lib.hid (by unfold caseQ; cases numsQ 4294967295 (wordsC 58 s).tail <;> rfl)

  unfold SplitPost at HSP
  generalize wordsC 58 s = words at *
  generalize hn : words.length = n at *
  have HN := Lib.hid hn
  obtain ⟨m, hm⟩ : ∃ m, n = m + 1 := ⟨n - 1, by omega⟩
  subst hm
  have HTL : RowKit.Hid (words.tail.length = m) := Lib.hid (by rw [List.length_tail, hn]; rfl)
  clear hn
  have hhead : words.getD 0 ⟨#[]⟩ = words.getD 0 ⟨#[]⟩ := rfl
  go_enter Tryz.func140, Tryz.ntmps140
  go_upto_region 2 with (go_at_call 49; refine (HSP.out _ trivial).mono ?_; rintro e w1 ⟨L, cp, rfl, hcp, hLw, hR, hb1⟩; have HR := Lib.hid hR; have HRR := Lib.hid ((blk_new (w := w) (t := 110) (cs := Cse.cells Cse.none) rfl).below hb1 (by simp)); have HB1 := Lib.hid (((Below.refl w.heap.size w).alloc (Nat.le_refl _) _).trans (hb1.mono (by simp))); clear hR hb1 hLw)
  obtain ⟨hLl, x0⟩ := rd_head HR.out (by rw [HN.out]; omega)
  generalize words.getD 0 ⟨#[]⟩ = h at *
  have HRT := Lib.hid (rd_tail HR.out (fun e => by have := HN.out; rw [e] at this; simp at this))
  by_cases hcp1 : cp = 1
  · obtain rfl : m = 0 := by omega
    have HV : RowKit.Hid (caseQ s = none) := Lib.hid (by
      rw [HQ.out, List.eq_nil_of_length_eq_zero HTL.out]
      exact if_pos (.inl rfl))
    subst hcp1
    have HNB := Lib.hid (rnumbers24_any 4294967295 (some ⟨L, 0, none⟩) 0 0 ([] : List ByteArray) w1 (Nat.le_refl _) (by omega) rfl (Nat.zero_le _) (.inl rfl) (fun x hx => by cases hx))
    go_upto_region 3 with (go_at_call 87; refine HNB.out.mono ?_; rintro e w2 (⟨h1, _⟩ | ⟨x, A, c, h1, rfl, hown, hb2⟩); · cases h1)
    have H2R := Lib.hid (HRR.out.below hb2 HRR.out.lt)
    have H2B := Lib.hid (HB1.out.trans (hb2.mono HB1.out.size))
    injection h1 with h1
    subst h1
    clear hown hb2 x0
    go_upto_region 4 with (fail)
    refine wp_region_lit ?_
    refine wpList_buildTo rfl 110 #[] rfl (some 28) rfl (Cse.cells Cse.none).toArray (by kernel_rfl) ?_
    refine wpList_store_row rfl 110 (.tmp 2) (.tmp 28) rfl w.heap.size (Cse.cells Cse.none).toArray rfl rfl 110 (Cse.cells Cse.none).toArray H2R.out (by kernel_rfl) (by kernel_rfl) (by kernel_rfl) ?_
    rw [setRow_self w2 w.heap.size _ _ _ H2R.out]
    go_wp2
    refine bodyPost_ret (v := .tuple #[cseV Cse.none, .bool false]) (ret_cell2 (g := w.heap.size) (v := cseV Cse.none) rfl rfl rfl (cse_load H2R.out)) rfl ?_
    exact .inl ⟨HV.out, rfl, H2B.out⟩
  · have HNB := Lib.hid (rnumbers24_any 4294967295 (some ⟨L, 1, none⟩) m (cp - 1) words.tail w1 (Nat.le_refl _) (by omega) HTL.out (by omega) HRT.out (fun x hx => by have := HWZ.out x (List.mem_of_mem_tail hx); omega))
    cases hq : numsQ 4294967295 words.tail with
    | none =>
      have HV : RowKit.Hid (caseQ s = none) := Lib.hid (by rw [HQ.out, hq])
      unfold NumsPost NumsNo NumsOk at HNB
      rw [hq] at HNB
      clear hq
      go_wp2_with fail
      refine HNB.out.mono ?_
      rintro e w2 (⟨_, rfl, hb2⟩ | ⟨x, A, c, h1, _⟩)
      · have H2R := Lib.hid (HRR.out.below hb2 HRR.out.lt)
        have H2B := Lib.hid (HB1.out.trans (hb2.mono HB1.out.size))
        clear hb2 x0
        go_upto_region 4 with (fail)
        refine wp_region_lit ?_
        refine wpList_buildTo rfl 110 #[] rfl (some 28) rfl (Cse.cells Cse.none).toArray (by kernel_rfl) ?_
        refine wpList_store_row rfl 110 (.tmp 2) (.tmp 28) rfl w.heap.size (Cse.cells Cse.none).toArray rfl rfl 110 (Cse.cells Cse.none).toArray H2R.out (by kernel_rfl) (by kernel_rfl) (by kernel_rfl) ?_
        rw [setRow_self w2 w.heap.size _ _ _ H2R.out]
        go_wp2
        refine bodyPost_ret (v := .tuple #[cseV Cse.none, .bool false]) (ret_cell2 (g := w.heap.size) (v := cseV Cse.none) rfl rfl rfl (cse_load H2R.out)) rfl ?_
        exact .inl ⟨HV.out, rfl, H2B.out⟩

      · cases h1
    | some n =>
      have hnl : n.length = m := (numsQ_len hq).trans HTL.out
      have HNL := Lib.hid hnl
      have HLE := Lib.hid (numsQ_le hq)
      have HV : RowKit.Hid (caseQ s = caseN h n) := Lib.hid (by rw [HQ.out, hq])
      unfold NumsPost NumsNo NumsOk at HNB
      rw [hq] at HNB
      clear hq hnl
      go_wp2_with fail
      refine HNB.out.mono ?_
      rintro e w2 (⟨h1, _⟩ | ⟨x, A, c, h1, rfl, hown, hb2⟩)
      · cases h1
      injection h1 with h1
      subst h1
      rw [HNL.out] at hown ⊢
      have H2R := Lib.hid (HRR.out.below hb2 HRR.out.lt)
      have H2B := Lib.hid (HB1.out.trans (hb2.mono HB1.out.size))
      have x2 := hb2.cell (p := ⟨L, 0, none⟩) hLl
      rw [x0] at x2
      have hL2 := Nat.lt_of_lt_of_le hLl hb2.size
      clear hb2 x0
      by_cases hm0 : m = 0
      · subst hm0
        have HV2 : RowKit.Hid (caseQ s = none) := Lib.hid (by rw [HV.out]; exact if_pos (.inl HNL.out))
        clear HV
        have HV := HV2
        clear HV2 hown
        go_upto_region 4 with (fail)
        refine wp_region_lit ?_
        refine wpList_buildTo rfl 110 #[] rfl (some 28) rfl (Cse.cells Cse.none).toArray (by kernel_rfl) ?_
        refine wpList_store_row rfl 110 (.tmp 2) (.tmp 28) rfl w.heap.size (Cse.cells Cse.none).toArray rfl rfl 110 (Cse.cells Cse.none).toArray H2R.out (by kernel_rfl) (by kernel_rfl) (by kernel_rfl) ?_
        rw [setRow_self w2 w.heap.size _ _ _ H2R.out]
        go_wp2
        refine bodyPost_ret (v := .tuple #[cseV Cse.none, .bool false]) (ret_cell2 (g := w.heap.size) (v := cseV Cse.none) rfl rfl rfl (cse_load H2R.out)) rfl ?_
        exact .inl ⟨HV.out, rfl, H2B.out⟩

      · obtain ⟨bb, rfl, hbw, hbl, hcs⟩ := nums_cell hown (by omega)
        have y0 := hcs 0 (by rw [HNL.out]; omega)
        have HCS := Lib.hid hcs
        have hn0 : n.getD 0 0 ≤ 4294967295 := HLE.out _ (by rw [List.getD, List.getElem?_eq_getElem (by rw [HNL.out]; omega)]; exact List.getElem_mem _)
        have HG0 : RowKit.Hid (n.getD 0 0 = n.getD 0 0) := Lib.hid rfl
        clear hcs hown
        generalize hgn0 : n.getD 0 0 = n0 at *
        have HN0 := Lib.hid hgn0
        clear hgn0 HG0
        have e0 : ((m : Int) == 0) = false := by rw [beq_eq_false_iff_ne]; omega
        by_cases h655 : 65535 < n0
        · have q5 : (65535 : Int) < (n0 : Int) := by omega
          have HV2 : RowKit.Hid (caseQ s = none) := Lib.hid (by rw [HV.out]; exact if_pos (.inr (by rw [HN0.out]; exact h655)))
          clear HV
          have HV := HV2
          clear HV2
          go_upto_region 4 with (fail)
          refine wp_region_lit ?_
          refine wpList_buildTo rfl 110 #[] rfl (some 28) rfl (Cse.cells Cse.none).toArray (by kernel_rfl) ?_
          refine wpList_store_row rfl 110 (.tmp 2) (.tmp 28) rfl w.heap.size (Cse.cells Cse.none).toArray rfl rfl 110 (Cse.cells Cse.none).toArray H2R.out (by kernel_rfl) (by kernel_rfl) (by kernel_rfl) ?_
          rw [setRow_self w2 w.heap.size _ _ _ H2R.out]
          go_wp2
          refine bodyPost_ret (v := .tuple #[cseV Cse.none, .bool false]) (ret_cell2 (g := w.heap.size) (v := cseV Cse.none) rfl rfl rfl (cse_load H2R.out)) rfl ?_
          exact .inl ⟨HV.out, rfl, H2B.out⟩

        · have q5 : ¬ (65535 : Int) < (n0 : Int) := by omega
          have HV2 : RowKit.Hid (caseQ s = if h = w_sendS ∧ n.length = 2 then some ⟨1, n.getD 0 0, n.getD 1 0⟩ else if h = w_recvS ∧ n.length = 1 then some ⟨2, n.getD 0 0, 0⟩ else none) := Lib.hid (by
            rw [HV.out]
            exact if_neg (fun e => by
              rcases e with e | e
              · have := HNL.out; omega
              · rw [HN0.out] at e; exact h655 e))
          clear HV
          rw [HNL.out, HN0.out] at HV2
          by_cases hsd : h = w_sendS
          · have e1 : (h.toList == [115, 101, 110, 100]) = true := by rw [hsd]; decide +kernel
            have e2 : (h.toList == [114, 101, 99, 118]) = false := by rw [hsd]; decide +kernel
            by_cases hm2 : m = 2
            · subst hm2
              have HV : RowKit.Hid (caseQ s = some ⟨1, n0, n.getD 1 0⟩) := Lib.hid (by rw [HV2.out, if_pos ⟨hsd, rfl⟩])
              have y1 := HCS.out 1 (by rw [HNL.out]; omega)
              generalize n.getD 1 0 = n1 at *
              clear HV2 hsd HCS
              have r0 := H2R.out.cell (i := 0) rfl
              have r1 := H2R.out.cell (i := 1) rfl
              have r2 := H2R.out.cell (i := 2) rfl
              have t0 := H2R.out.frozen 0
              have t1 := H2R.out.frozen 1
              have t2 := H2R.out.frozen 2
              have hrl := H2R.out.lt

              go_upto_region 6 with (fail)
              go_region
              go_wp2
              have hl : Blk ((((w2.setCell ⟨w.heap.size, 0, none⟩ (.int .i64 1)).setCell ⟨w.heap.size, 1, none⟩ (.int .i64 (n0 : Int))).setCell ⟨w.heap.size, 2, none⟩ (.int .i64 (n1 : Int))) : World) w.heap.size 110 (Cse.cells ⟨1, n0, (n1 : Int)⟩) := ((H2R.out.set_ 0 (.int .i64 1)).set_ 1 (.int .i64 (n0 : Int))).set_ 2 (.int .i64 (n1 : Int))
              refine bodyPost_ret (v := .tuple #[cseV ⟨1, n0, (n1 : Int)⟩, .bool true]) (ret_cell2 (g := w.heap.size) (v := cseV ⟨1, n0, (n1 : Int)⟩) rfl rfl rfl (cse_load (x := ⟨1, n0, (n1 : Int)⟩) hl)) rfl ?_
              have hbz := ((H2B.out.setCell (p := ⟨w.heap.size, 0, none⟩) (Nat.le_refl _) (.int .i64 1)).setCell (p := ⟨w.heap.size, 1, none⟩) (Nat.le_refl _) (.int .i64 (n0 : Int))).setCell (p := ⟨w.heap.size, 2, none⟩) (Nat.le_refl _) (.int .i64 (n1 : Int))
              exact .inr ⟨_, HV.out, rfl, ⟨hbz.os, hbz.tape, hbz.output, hbz.size, hbz.block⟩⟩

            · have e3 : ((m : Int) == 2) = false := by rw [beq_eq_false_iff_ne]; omega
              have HV : RowKit.Hid (caseQ s = none) := Lib.hid (by rw [HV2.out, if_neg (fun e => hm2 e.2), if_neg (fun e => by rw [hsd] at e; exact absurd e.1 (by decide +kernel))])
              clear HV2 hsd HCS
              go_upto_region 9 with (fail)
              refine wp_region_lit ?_
              refine wpList_buildTo rfl 110 #[] rfl (some 58) rfl (Cse.cells Cse.none).toArray (by kernel_rfl) ?_
              refine wpList_store_row rfl 110 (.tmp 2) (.tmp 58) rfl w.heap.size (Cse.cells Cse.none).toArray rfl rfl 110 (Cse.cells Cse.none).toArray H2R.out (by kernel_rfl) (by kernel_rfl) (by kernel_rfl) ?_
              rw [setRow_self w2 w.heap.size _ _ _ H2R.out]
              go_wp2
              refine bodyPost_ret (v := .tuple #[cseV Cse.none, .bool false]) (ret_cell2 (g := w.heap.size) (v := cseV Cse.none) rfl rfl rfl (cse_load H2R.out)) rfl ?_
              exact .inl ⟨HV.out, rfl, H2B.out⟩

          · have e1 : (h.toList == [115, 101, 110, 100]) = false := eqL hsd (by decide +kernel)
            by_cases hrv : h = w_recvS
            · have e2 : (h.toList == [114, 101, 99, 118]) = true := by rw [hrv]; decide +kernel
              by_cases hm1 : m = 1
              · subst hm1
                have HV : RowKit.Hid (caseQ s = some ⟨2, n0, 0⟩) := Lib.hid (by rw [HV2.out, if_neg (fun e => hsd e.1), if_pos ⟨hrv, rfl⟩])
                clear HV2 hsd hrv HCS
                have r0 := H2R.out.cell (i := 0) rfl
                have r1 := H2R.out.cell (i := 1) rfl
                have r2 := H2R.out.cell (i := 2) rfl
                have t0 := H2R.out.frozen 0
                have t1 := H2R.out.frozen 1
                have t2 := H2R.out.frozen 2
                have hrl := H2R.out.lt
                go_wp2
                have hl : Blk ((((w2.setCell ⟨w.heap.size, 0, none⟩ (.int .i64 2)).setCell ⟨w.heap.size, 1, none⟩ (.int .i64 (n0 : Int))).setCell ⟨w.heap.size, 2, none⟩ (.int .i64 0)) : World) w.heap.size 110 (Cse.cells ⟨2, n0, 0⟩) := ((H2R.out.set_ 0 (.int .i64 2)).set_ 1 (.int .i64 (n0 : Int))).set_ 2 (.int .i64 0)
                refine bodyPost_ret (v := .tuple #[cseV ⟨2, n0, 0⟩, .bool true]) (ret_cell2 (g := w.heap.size) (v := cseV ⟨2, n0, 0⟩) rfl rfl rfl (cse_load (x := ⟨2, n0, 0⟩) hl)) rfl ?_
                have hbz := ((H2B.out.setCell (p := ⟨w.heap.size, 0, none⟩) (Nat.le_refl _) (.int .i64 2)).setCell (p := ⟨w.heap.size, 1, none⟩) (Nat.le_refl _) (.int .i64 (n0 : Int))).setCell (p := ⟨w.heap.size, 2, none⟩) (Nat.le_refl _) (.int .i64 0)
                exact .inr ⟨_, HV.out, rfl, hbz⟩

              · have e3 : ((m : Int) == 1) = false := by rw [beq_eq_false_iff_ne]; omega
                have HV : RowKit.Hid (caseQ s = none) := Lib.hid (by rw [HV2.out, if_neg (fun e => hsd e.1), if_neg (fun e => hm1 e.2)])
                clear HV2 hsd hrv HCS
                go_upto_region 9 with (fail)
                refine wp_region_lit ?_
                refine wpList_buildTo rfl 110 #[] rfl (some 58) rfl (Cse.cells Cse.none).toArray (by kernel_rfl) ?_
                refine wpList_store_row rfl 110 (.tmp 2) (.tmp 58) rfl w.heap.size (Cse.cells Cse.none).toArray rfl rfl 110 (Cse.cells Cse.none).toArray H2R.out (by kernel_rfl) (by kernel_rfl) (by kernel_rfl) ?_
                rw [setRow_self w2 w.heap.size _ _ _ H2R.out]
                go_wp2
                refine bodyPost_ret (v := .tuple #[cseV Cse.none, .bool false]) (ret_cell2 (g := w.heap.size) (v := cseV Cse.none) rfl rfl rfl (cse_load H2R.out)) rfl ?_
                exact .inl ⟨HV.out, rfl, H2B.out⟩

            · have e2 : (h.toList == [114, 101, 99, 118]) = false := eqL hrv (by decide +kernel)
              have HV : RowKit.Hid (caseQ s = none) := Lib.hid (by rw [HV2.out, if_neg (fun e => hsd e.1), if_neg (fun e => hrv e.1)])
              clear HV2 hsd hrv HCS
              go_upto_region 9 with (fail)
              refine wp_region_lit ?_
              refine wpList_buildTo rfl 110 #[] rfl (some 58) rfl (Cse.cells Cse.none).toArray (by kernel_rfl) ?_
              refine wpList_store_row rfl 110 (.tmp 2) (.tmp 58) rfl w.heap.size (Cse.cells Cse.none).toArray rfl rfl 110 (Cse.cells Cse.none).toArray H2R.out (by kernel_rfl) (by kernel_rfl) (by kernel_rfl) ?_
              rw [setRow_self w2 w.heap.size _ _ _ H2R.out]
              go_wp2
              refine bodyPost_ret (v := .tuple #[cseV Cse.none, .bool false]) (ret_cell2 (g := w.heap.size) (v := cseV Cse.none) rfl rfl rfl (cse_load H2R.out)) rfl ?_
              exact .inl ⟨HV.out, rfl, H2B.out⟩


end Go.Proofs.YtalkllfgedacoaaGreatDoor

namespace Go.Proofs.YtalkllfgedacoaaGreatDoor
open Go.RowKit Go.Sort


set_option maxHeartbeats 8000000 in
set_option maxRecDepth 100000 in
theorem numbers24_any (most : Nat) (A : Option Addr) (n c : Nat) (l : List ByteArray) (w : World) (hm : most ≤ 4294967295) (hl : l.length = n) (hn : n ≤ 1099511627776) (hR : Rd w A (rows l)) (hz : ∀ x ∈ l, x.size ≤ 4294967296) (he : ErrT w) (ht : TabT w) :
    Calls Tryz.prog 84 #[.slice A n c, .int .i64 most] w (NumsPost most l w) := by
  have HR := Lib.hid hR
  have HZ := Lib.hid hz
  have HN := Lib.hid hl
  have HE := Lib.hid he
  have HT := Lib.hid ht
  clear he ht
  clear hR hz hl
  go_enter Tryz.func84, Tryz.ntmps84
  go_wp2
  go_loopg [6, 13] n (fun gg lv i wr => ∃ (k : Nat) (V : Option Addr) (cv : Nat) (x : List Nat), k ≤ n ∧ gg = n - k ∧ i = .int .i64 k ∧ lv = .slice V k cv ∧ numsQ most (l.take k) = some x ∧ wr.ownsRow w.heap.size 3 1 (.slice V k cv) k (ints (x.map Int.ofNat)) ∧ Below w.heap.size w wr)
  case atStart => exact ⟨0, none, 0, [], Nat.zero_le _, rfl, rfl, rfl, rfl, own_nil _ _ _ _, Below.refl _ _⟩
  case round =>
    obtain ⟨k, V, cv, x, hk, hg, rfl, rfl, hx, hown, hb⟩ := hrel
    have HG := Lib.hid hg
    have HX := Lib.hid hx
    have HO := Lib.hid hown
    have HB := Lib.hid hb
    clear hg hx hown hb
    by_cases hlt : k < n
    · have q1 : (k : Int) < (n : Int) := by omega
      have hkl : k < l.length := by rw [HN.out]; exact hlt
      obtain ⟨bb, oo, rfl, hbl, hcs⟩ := strs_cell (HR.out.below HB.out) (fun e => by rw [e] at hkl; exact Nat.not_lt_zero _ hkl)
      have x0 := hcs k (l.getD k ⟨#[]⟩) (by rw [List.getD, List.getElem?_eq_getElem hkl]; rfl)
      have hzs := HZ.out (l.getD k ⟨#[]⟩) (by rw [List.getD, List.getElem?_eq_getElem hkl]; exact List.getElem_mem _)
      have HSTEP := Lib.hid (numsQ_step hkl HX.out)
      clear hcs hkl
      generalize l.getD k ⟨#[]⟩ = s at *
      have HC := Lib.hid (number24_any most s wr hm (by omega) (HE.out.below HB.out) (HT.out.below HB.out))
      clear hzs
      cases hq : numQ most s with
      | none =>
        rw [hq] at HC HSTEP
        have HNO := Lib.hid (numsQ_dead HSTEP.out)
        clear hq
        go_wp2_with fail
        refine HC.out.mono ?_
        rintro e w1 ⟨rfl, hb1⟩
        simp only [Option.isSome_none, Option.getD_none]
        go_wp2
        go_ret2
        exact .inl ⟨HNO.out, rfl, HB.out.trans (hb1.mono HB.out.size)⟩
      | some m =>
        have hmm := numQ_le hq
        rw [hq] at HC HSTEP
        clear hq
        go_wp2_with fail
        refine HC.out.mono ?_
        rintro e w1 ⟨rfl, hb1⟩
        have HB1 := Lib.hid (HB.out.trans (hb1.mono HB.out.size))
        have HO1 := Lib.hid (own_below HO.out hb1)
        clear hb1
        simp only [Option.isSome_some, Option.getD_some]
        go_wp2_with (at_builtin; refine wpList_app rfl (.tmp 25) (.tmp 27) 53 3 rfl w.heap.size (.int .i64 0) 1 8 Tryz.underlying53 int_info rfl (by decide) V k cv (ints (x.map Int.ofNat)) rfl (own_below HO1.out ((Below.refl _ _).alloc (Nat.le_refl _) _)) (some ⟨w1.heap.size, 0, none⟩) 1 1 (ints [(m : Int)]) rfl (by simp) rfl (blk_new (cs := ints [(m : Int)]) rfl).rd (ints_one _) (k + 1) rfl (ints ((x ++ [m]).map Int.ofNat)) (by simp [ints]) (by unfold maxLen; omega) (by omega) (by have := HB1.out.size; simp; omega) ?_; intro V3 cv3 w3 hown3 hg3 hb3)
        go_roundg (n - (k + 1))
        case measure => rw [HG.out]; omega
        case rel => exact ⟨k + 1, V3, cv3, x ++ [m], by omega, rfl, by go_num, rfl, HSTEP.out, hown3, (HB1.out.alloc (HB1.out.size) _).trans hb3⟩
    · obtain rfl : k = n := by omega
      have q1 : ¬ (k : Int) < (k : Int) := by omega
      have HL : RowKit.Hid (numsQ most l = some x) := Lib.hid (by
        have := HX.out
        rwa [List.take_of_length_le (by rw [HN.out]; exact Nat.le_refl _)] at this)
      have HXL := Lib.hid ((numsQ_len HL.out).trans HN.out)
      go_wp2
      go_ret2
      refine .inr ⟨x, V, cv, HL.out, ?_, ?_, HB.out⟩
      · rw [HXL.out]; rfl
      · rw [HXL.out]; exact HO.out

end Go.Proofs.YtalkllfgedacoaaGreatDoor

namespace Go.Proofs.YtalkllfgedacoaaGreatDoor
open Go.RowKit Go.Sort

def one24No (s : ByteArray) (w : World) (e : Ending) (w' : World) : Prop := caseQ s = none ∧ e = .returned (.tuple #[cseV Cse.none, .bool false]) ∧ Below w.heap.size w w'
def one24Ok (s : ByteArray) (w : World) (e : Ending) (w' : World) : Prop := ∃ k, caseQ s = some k ∧ e = .returned (.tuple #[cseV k, .bool true]) ∧ Below w.heap.size w w'

set_option maxHeartbeats 16000000 in
set_option maxRecDepth 100000 in
theorem one24_any (s : ByteArray) (w : World) (hs : s.size ≤ 1073741824) (he : ErrT w) (ht : TabT w) (hm : MLT w) :
    Calls Tryz.prog 136 #[.string s] w fun e w' => one24No s w e w' ∨ one24Ok s w e w' := by
  have HSP := Lib.hid (fun W h => SplitC_any 58 s W (by omega) h)
  have hwp : 0 < (wordsC 58 s).length := by rw [wordsC_len]; omega
  have hwl := wordsC_le 58 s
  have HWZ := Lib.hid (wordsC_size 58 s)
  have HQ : RowKit.Hid (caseQ s = match numsQ 4294967295 (wordsC 58 s).tail with
    | none => none
    | some n => caseN ((wordsC 58 s).getD 0 ⟨#[]⟩) n) := Lib.hid (by unfold caseQ; cases numsQ 4294967295 (wordsC 58 s).tail <;> rfl)
  have HE := Lib.hid he
  have HT := Lib.hid ht
  have HM := Lib.hid hm
  clear he ht hm
  unfold SplitPost at HSP
  generalize wordsC 58 s = words at *
  generalize hn : words.length = n at *
  have HN := Lib.hid hn
  obtain ⟨m, hm⟩ : ∃ m, n = m + 1 := ⟨n - 1, by omega⟩
  subst hm
  have HTL : RowKit.Hid (words.tail.length = m) := Lib.hid (by rw [List.length_tail, hn]; rfl)
  clear hn
  have hhead : words.getD 0 ⟨#[]⟩ = words.getD 0 ⟨#[]⟩ := rfl
  go_enter Tryz.func136, Tryz.ntmps136
  go_upto_region 2 with (go_at_call 47; refine (HSP.out _ (HM.out.below ((Below.refl _ _).alloc (Nat.le_refl _) _))).mono ?_; rintro e w1 ⟨L, cp, rfl, hcp, hLw, hR, hb1⟩; have HR := Lib.hid hR; have HRR := Lib.hid ((blk_new (w := w) (t := 110) (cs := Cse.cells Cse.none) rfl).below hb1 (by simp)); have HB1 := Lib.hid (((Below.refl w.heap.size w).alloc (Nat.le_refl _) _).trans (hb1.mono (by simp))); clear hR hb1 hLw)
  obtain ⟨hLl, x0⟩ := rd_head HR.out (by rw [HN.out]; omega)
  generalize words.getD 0 ⟨#[]⟩ = h at *
  have HRT := Lib.hid (rd_tail HR.out (fun e => by have := HN.out; rw [e] at this; simp at this))
  by_cases hcp1 : cp = 1
  · obtain rfl : m = 0 := by omega
    have HV : RowKit.Hid (caseQ s = none) := Lib.hid (by
      rw [HQ.out, List.eq_nil_of_length_eq_zero HTL.out]
      exact if_pos (.inl rfl))
    subst hcp1
    have HNB := Lib.hid (numbers24_any 4294967295 (some ⟨L, 0, none⟩) 0 0 ([] : List ByteArray) w1 (Nat.le_refl _) rfl (Nat.zero_le _) (.inl rfl) (fun x hx => by cases hx) (HE.out.below HB1.out) (HT.out.below HB1.out))
    go_upto_region 3 with (go_at_call 84; refine HNB.out.mono ?_; rintro e w2 (⟨h1, _⟩ | ⟨x, A, c, h1, rfl, hown, hb2⟩); · cases h1)
    have H2R := Lib.hid (HRR.out.below hb2 HRR.out.lt)
    have H2B := Lib.hid (HB1.out.trans (hb2.mono HB1.out.size))
    injection h1 with h1
    subst h1
    clear hown hb2 x0
    go_upto_region 8 with (fail)
    refine wp_region_lit ?_
    refine wpList_buildTo rfl 110 #[] rfl (some 60) rfl (Cse.cells Cse.none).toArray (by kernel_rfl) ?_
    refine wpList_store_row rfl 110 (.tmp 2) (.tmp 60) rfl w.heap.size (Cse.cells Cse.none).toArray rfl rfl 110 (Cse.cells Cse.none).toArray H2R.out (by kernel_rfl) (by kernel_rfl) (by kernel_rfl) ?_
    rw [setRow_self w2 w.heap.size _ _ _ H2R.out]
    go_wp2
    refine bodyPost_ret (v := .tuple #[cseV Cse.none, .bool false]) (ret_cell2 (g := w.heap.size) (v := cseV Cse.none) rfl rfl rfl (cse_load H2R.out)) rfl ?_
    exact .inl ⟨HV.out, rfl, H2B.out⟩
  · have HNB := Lib.hid (numbers24_any 4294967295 (some ⟨L, 1, none⟩) m (cp - 1) words.tail w1 (Nat.le_refl _) HTL.out (by omega) HRT.out (fun x hx => by have := HWZ.out x (List.mem_of_mem_tail hx); omega) (HE.out.below HB1.out) (HT.out.below HB1.out))
    cases hq : numsQ 4294967295 words.tail with
    | none =>
      have HV : RowKit.Hid (caseQ s = none) := Lib.hid (by rw [HQ.out, hq])
      unfold NumsPost NumsNo NumsOk at HNB
      rw [hq] at HNB
      clear hq
      go_wp2_with fail
      refine HNB.out.mono ?_
      rintro e w2 (⟨_, rfl, hb2⟩ | ⟨x, A, c, h1, _⟩)
      · have H2R := Lib.hid (HRR.out.below hb2 HRR.out.lt)
        have H2B := Lib.hid (HB1.out.trans (hb2.mono HB1.out.size))
        clear hb2 x0
        go_upto_region 8 with (fail)
        refine wp_region_lit ?_
        refine wpList_buildTo rfl 110 #[] rfl (some 60) rfl (Cse.cells Cse.none).toArray (by kernel_rfl) ?_
        refine wpList_store_row rfl 110 (.tmp 2) (.tmp 60) rfl w.heap.size (Cse.cells Cse.none).toArray rfl rfl 110 (Cse.cells Cse.none).toArray H2R.out (by kernel_rfl) (by kernel_rfl) (by kernel_rfl) ?_
        rw [setRow_self w2 w.heap.size _ _ _ H2R.out]
        go_wp2
        refine bodyPost_ret (v := .tuple #[cseV Cse.none, .bool false]) (ret_cell2 (g := w.heap.size) (v := cseV Cse.none) rfl rfl rfl (cse_load H2R.out)) rfl ?_
        exact .inl ⟨HV.out, rfl, H2B.out⟩

      · cases h1
    | some n =>
      have hnl : n.length = m := (numsQ_len hq).trans HTL.out
      have HNL := Lib.hid hnl
      have HLE := Lib.hid (numsQ_le hq)
      have HV : RowKit.Hid (caseQ s = caseN h n) := Lib.hid (by rw [HQ.out, hq])
      unfold NumsPost NumsNo NumsOk at HNB
      rw [hq] at HNB
      clear hq hnl
      go_wp2_with fail
      refine HNB.out.mono ?_
      rintro e w2 (⟨h1, _⟩ | ⟨x, A, c, h1, rfl, hown, hb2⟩)
      · cases h1
      injection h1 with h1
      subst h1
      rw [HNL.out] at hown ⊢
      have H2R := Lib.hid (HRR.out.below hb2 HRR.out.lt)
      have H2B := Lib.hid (HB1.out.trans (hb2.mono HB1.out.size))
      have x2 := hb2.cell (p := ⟨L, 0, none⟩) hLl
      rw [x0] at x2
      have hL2 := Nat.lt_of_lt_of_le hLl hb2.size
      clear hb2 x0
      by_cases hm0 : m = 0
      · subst hm0
        have HV2 : RowKit.Hid (caseQ s = none) := Lib.hid (by rw [HV.out]; exact if_pos (.inl HNL.out))
        clear HV
        have HV := HV2
        clear HV2 hown
        go_upto_region 8 with (fail)
        refine wp_region_lit ?_
        refine wpList_buildTo rfl 110 #[] rfl (some 60) rfl (Cse.cells Cse.none).toArray (by kernel_rfl) ?_
        refine wpList_store_row rfl 110 (.tmp 2) (.tmp 60) rfl w.heap.size (Cse.cells Cse.none).toArray rfl rfl 110 (Cse.cells Cse.none).toArray H2R.out (by kernel_rfl) (by kernel_rfl) (by kernel_rfl) ?_
        rw [setRow_self w2 w.heap.size _ _ _ H2R.out]
        go_wp2
        refine bodyPost_ret (v := .tuple #[cseV Cse.none, .bool false]) (ret_cell2 (g := w.heap.size) (v := cseV Cse.none) rfl rfl rfl (cse_load H2R.out)) rfl ?_
        exact .inl ⟨HV.out, rfl, H2B.out⟩

      · obtain ⟨bb, rfl, hbw, hbl, hcs⟩ := nums_cell hown (by omega)
        have y0 := hcs 0 (by rw [HNL.out]; omega)
        have HCS := Lib.hid hcs
        have hn0 : n.getD 0 0 ≤ 4294967295 := HLE.out _ (by rw [List.getD, List.getElem?_eq_getElem (by rw [HNL.out]; omega)]; exact List.getElem_mem _)
        have HG0 : RowKit.Hid (n.getD 0 0 = n.getD 0 0) := Lib.hid rfl
        clear hcs hown
        generalize hgn0 : n.getD 0 0 = n0 at *
        have HN0 := Lib.hid hgn0
        clear hgn0 HG0
        have e0 : ((m : Int) == 0) = false := by rw [beq_eq_false_iff_ne]; omega
        by_cases h655 : 65535 < n0
        · have q5 : (65535 : Int) < (n0 : Int) := by omega
          have HV2 : RowKit.Hid (caseQ s = none) := Lib.hid (by rw [HV.out]; exact if_pos (.inr (by rw [HN0.out]; exact h655)))
          clear HV
          have HV := HV2
          clear HV2
          go_upto_region 8 with (fail)
          refine wp_region_lit ?_
          refine wpList_buildTo rfl 110 #[] rfl (some 60) rfl (Cse.cells Cse.none).toArray (by kernel_rfl) ?_
          refine wpList_store_row rfl 110 (.tmp 2) (.tmp 60) rfl w.heap.size (Cse.cells Cse.none).toArray rfl rfl 110 (Cse.cells Cse.none).toArray H2R.out (by kernel_rfl) (by kernel_rfl) (by kernel_rfl) ?_
          rw [setRow_self w2 w.heap.size _ _ _ H2R.out]
          go_wp2
          refine bodyPost_ret (v := .tuple #[cseV Cse.none, .bool false]) (ret_cell2 (g := w.heap.size) (v := cseV Cse.none) rfl rfl rfl (cse_load H2R.out)) rfl ?_
          exact .inl ⟨HV.out, rfl, H2B.out⟩

        · have q5 : ¬ (65535 : Int) < (n0 : Int) := by omega
          have HV2 : RowKit.Hid (caseQ s = if h = w_sendS ∧ n.length = 2 then some ⟨1, n.getD 0 0, n.getD 1 0⟩ else if h = w_recvS ∧ n.length = 1 then some ⟨2, n.getD 0 0, 0⟩ else none) := Lib.hid (by
            rw [HV.out]
            exact if_neg (fun e => by
              rcases e with e | e
              · have := HNL.out; omega
              · rw [HN0.out] at e; exact h655 e))
          clear HV
          rw [HNL.out, HN0.out] at HV2
          by_cases hsd : h = w_sendS
          · have e1 : (h.toList == [115, 101, 110, 100]) = true := by rw [hsd]; decide +kernel
            have e2 : (h.toList == [114, 101, 99, 118]) = false := by rw [hsd]; decide +kernel
            by_cases hm2 : m = 2
            · subst hm2
              have HV : RowKit.Hid (caseQ s = some ⟨1, n0, n.getD 1 0⟩) := Lib.hid (by rw [HV2.out, if_pos ⟨hsd, rfl⟩])
              have y1 := HCS.out 1 (by rw [HNL.out]; omega)
              generalize n.getD 1 0 = n1 at *
              clear HV2 hsd HCS
              have HTO := Lib.hid (fun W => To_any (n0 : Int) (n1 : Int) W)
              have z0 := H2R.out.cell (i := 0) rfl
              have z1 := H2R.out.cell (i := 1) rfl
              have z2 := H2R.out.cell (i := 2) rfl
              have hrl := H2R.out.lt
              have hnb : ¬ bb = w.heap.size := by have := HRR.out.lt; omega
              have hnb2 : ¬ w.heap.size = bb := fun e => hnb e.symm
              go_upto_region 5 with (fail)
              go_region_held3 (fun w' => w'.cell? ⟨bb, 0, none⟩ = some (.int .i64 (n0 : Int)) ∧ w'.cell? ⟨bb, 1, none⟩ = some (.int .i64 (n1 : Int))) (first | go_keep | (simp only [hk1]; go_keep)) (first
                | (go_at_call 138; (with_reducible refine (HTO.out w2.drew).mono ?_); rintro e w3 ⟨rfl, hb3⟩; have hB3 : Below w2.heap.size w2 w3 := ⟨hb3.os, hb3.tape, hb3.output, hb3.size, hb3.block⟩; have hk1 := fun o => hB3.cell (p := ⟨bb, o, none⟩) hbl; have s0 := (hk1 0).trans y0; have s1 := (hk1 1).trans y1; have HR3 := H2R.out.below hB3 hrl; have r0 := HR3.cell (i := 0) rfl; have r1 := HR3.cell (i := 1) rfl; have r2 := HR3.cell (i := 2) rfl; have t0 := HR3.frozen 0; have t1 := HR3.frozen 1; have t2 := HR3.frozen 2; have hrl3 := HR3.lt))
              have HB3 := Lib.hid (H2B.out.trans (hB3.mono H2B.out.size))
              have HR3h := Lib.hid HR3
              clear hk1 hB3 hb3 HR3 y0 y1 s0 s1
              go_wp2
              have hl : Blk ((((w3.setCell ⟨w.heap.size, 0, none⟩ (.int .i64 1)).setCell ⟨w.heap.size, 1, none⟩ (.int .i64 (n0 : Int))).setCell ⟨w.heap.size, 2, none⟩ (.int .i64 (n1 : Int))) : World) w.heap.size 110 (Cse.cells ⟨1, n0, (n1 : Int)⟩) := ((HR3h.out.set_ 0 (.int .i64 1)).set_ 1 (.int .i64 (n0 : Int))).set_ 2 (.int .i64 (n1 : Int))
              refine bodyPost_ret (v := .tuple #[cseV ⟨1, n0, (n1 : Int)⟩, .bool true]) (ret_cell2 (g := w.heap.size) (v := cseV ⟨1, n0, (n1 : Int)⟩) rfl rfl rfl (cse_load (x := ⟨1, n0, (n1 : Int)⟩) hl)) rfl ?_
              have hbz := ((HB3.out.setCell (p := ⟨w.heap.size, 0, none⟩) (Nat.le_refl _) (.int .i64 1)).setCell (p := ⟨w.heap.size, 1, none⟩) (Nat.le_refl _) (.int .i64 (n0 : Int))).setCell (p := ⟨w.heap.size, 2, none⟩) (Nat.le_refl _) (.int .i64 (n1 : Int))
              exact .inr ⟨_, HV.out, rfl, hbz⟩

            · have e3 : ((m : Int) == 2) = false := by rw [beq_eq_false_iff_ne]; omega
              have HV : RowKit.Hid (caseQ s = none) := Lib.hid (by rw [HV2.out, if_neg (fun e => hm2 e.2), if_neg (fun e => by rw [hsd] at e; exact absurd e.1 (by decide +kernel))])
              clear HV2 hsd HCS
              go_upto_region 8 with (fail)
              refine wp_region_lit ?_
              refine wpList_buildTo rfl 110 #[] rfl (some 60) rfl (Cse.cells Cse.none).toArray (by kernel_rfl) ?_
              refine wpList_store_row rfl 110 (.tmp 2) (.tmp 60) rfl w.heap.size (Cse.cells Cse.none).toArray rfl rfl 110 (Cse.cells Cse.none).toArray H2R.out (by kernel_rfl) (by kernel_rfl) (by kernel_rfl) ?_
              rw [setRow_self w2 w.heap.size _ _ _ H2R.out]
              go_wp2
              refine bodyPost_ret (v := .tuple #[cseV Cse.none, .bool false]) (ret_cell2 (g := w.heap.size) (v := cseV Cse.none) rfl rfl rfl (cse_load H2R.out)) rfl ?_
              exact .inl ⟨HV.out, rfl, H2B.out⟩

          · have e1 : (h.toList == [115, 101, 110, 100]) = false := eqL hsd (by decide +kernel)
            by_cases hrv : h = w_recvS
            · have e2 : (h.toList == [114, 101, 99, 118]) = true := by rw [hrv]; decide +kernel
              by_cases hm1 : m = 1
              · subst hm1
                have HV : RowKit.Hid (caseQ s = some ⟨2, n0, 0⟩) := Lib.hid (by rw [HV2.out, if_neg (fun e => hsd e.1), if_pos ⟨hrv, rfl⟩])
                clear HV2 hsd hrv HCS
                have HTO := Lib.hid (fun W => From_any (n0 : Int) W)
                go_wp2_with (go_at_call 139; refine (HTO.out _).mono ?_; rintro e w3 ⟨rfl, hb3⟩; have HR3 := H2R.out.below hb3 H2R.out.lt; have r0 := HR3.cell (i := 0) rfl; have r1 := HR3.cell (i := 1) rfl; have r2 := HR3.cell (i := 2) rfl; have t0 := HR3.frozen 0; have t1 := HR3.frozen 1; have t2 := HR3.frozen 2; have hrl3 := HR3.lt)
                have HB3 := Lib.hid (H2B.out.trans (hb3.mono H2B.out.size))
                have HR3h := Lib.hid HR3
                have hl : Blk ((((w3.setCell ⟨w.heap.size, 0, none⟩ (.int .i64 2)).setCell ⟨w.heap.size, 1, none⟩ (.int .i64 (n0 : Int))).setCell ⟨w.heap.size, 2, none⟩ (.int .i64 0)) : World) w.heap.size 110 (Cse.cells ⟨2, n0, 0⟩) := ((HR3h.out.set_ 0 (.int .i64 2)).set_ 1 (.int .i64 (n0 : Int))).set_ 2 (.int .i64 0)
                refine bodyPost_ret (v := .tuple #[cseV ⟨2, n0, 0⟩, .bool true]) (ret_cell2 (g := w.heap.size) (v := cseV ⟨2, n0, 0⟩) rfl rfl rfl (cse_load (x := ⟨2, n0, 0⟩) hl)) rfl ?_
                have hbz := ((HB3.out.setCell (p := ⟨w.heap.size, 0, none⟩) (Nat.le_refl _) (.int .i64 2)).setCell (p := ⟨w.heap.size, 1, none⟩) (Nat.le_refl _) (.int .i64 (n0 : Int))).setCell (p := ⟨w.heap.size, 2, none⟩) (Nat.le_refl _) (.int .i64 0)
                exact .inr ⟨_, HV.out, rfl, hbz⟩

              · have e3 : ((m : Int) == 1) = false := by rw [beq_eq_false_iff_ne]; omega
                have HV : RowKit.Hid (caseQ s = none) := Lib.hid (by rw [HV2.out, if_neg (fun e => hsd e.1), if_neg (fun e => hm1 e.2)])
                clear HV2 hsd hrv HCS
                go_upto_region 8 with (fail)
                refine wp_region_lit ?_
                refine wpList_buildTo rfl 110 #[] rfl (some 60) rfl (Cse.cells Cse.none).toArray (by kernel_rfl) ?_
                refine wpList_store_row rfl 110 (.tmp 2) (.tmp 60) rfl w.heap.size (Cse.cells Cse.none).toArray rfl rfl 110 (Cse.cells Cse.none).toArray H2R.out (by kernel_rfl) (by kernel_rfl) (by kernel_rfl) ?_
                rw [setRow_self w2 w.heap.size _ _ _ H2R.out]
                go_wp2
                refine bodyPost_ret (v := .tuple #[cseV Cse.none, .bool false]) (ret_cell2 (g := w.heap.size) (v := cseV Cse.none) rfl rfl rfl (cse_load H2R.out)) rfl ?_
                exact .inl ⟨HV.out, rfl, H2B.out⟩

            · have e2 : (h.toList == [114, 101, 99, 118]) = false := eqL hrv (by decide +kernel)
              have HV : RowKit.Hid (caseQ s = none) := Lib.hid (by rw [HV2.out, if_neg (fun e => hsd e.1), if_neg (fun e => hrv e.1)])
              clear HV2 hsd hrv HCS
              go_upto_region 8 with (fail)
              refine wp_region_lit ?_
              refine wpList_buildTo rfl 110 #[] rfl (some 60) rfl (Cse.cells Cse.none).toArray (by kernel_rfl) ?_
              refine wpList_store_row rfl 110 (.tmp 2) (.tmp 60) rfl w.heap.size (Cse.cells Cse.none).toArray rfl rfl 110 (Cse.cells Cse.none).toArray H2R.out (by kernel_rfl) (by kernel_rfl) (by kernel_rfl) ?_
              rw [setRow_self w2 w.heap.size _ _ _ H2R.out]
              go_wp2
              refine bodyPost_ret (v := .tuple #[cseV Cse.none, .bool false]) (ret_cell2 (g := w.heap.size) (v := cseV Cse.none) rfl rfl rfl (cse_load H2R.out)) rfl ?_
              exact .inl ⟨HV.out, rfl, H2B.out⟩


end Go.Proofs.YtalkllfgedacoaaGreatDoor

namespace Go.Proofs.YtalkllfgedacoaaGreatDoor
open Go.RowKit Go.Sort

/-- From a to w: new blocks, and writes to blocks of S alone. -/
structure Keep (S : Nat → Prop) (a w : World) : Prop where
  os : w.os = a.os
  tape : w.tape = a.tape
  output : w.output = a.output
  size : a.heap.size ≤ w.heap.size
  block : ∀ k, k < a.heap.size → ¬ S k → w.heap[k]? = a.heap[k]?

section
variable {S T : Nat → Prop} {a b w : World} {g : Nat} {t : TypeId} {cs : List Value}
theorem Keep.refl (S : Nat → Prop) (w : World) : Keep S w w := ⟨rfl, rfl, rfl, Nat.le_refl _, fun _ _ _ => rfl⟩
theorem Keep.trans' (h : Keep S a b) (k : Keep T b w) (hT : ∀ j, j < a.heap.size → T j → S j) : Keep S a w :=
  ⟨k.os.trans h.os, k.tape.trans h.tape, k.output.trans h.output, Nat.le_trans h.size k.size, fun i hi hn => (k.block i (Nat.lt_of_lt_of_le hi h.size) (fun h' => hn (hT i hi h'))).trans (h.block i hi hn)⟩
theorem Keep.trans (h : Keep S a b) (k : Keep S b w) : Keep S a w := h.trans' k (fun _ _ h => h)
theorem Keep.of_below (h : Below a.heap.size a w) : Keep S a w := ⟨h.os, h.tape, h.output, h.size, fun i hi _ => h.block i hi⟩
theorem Keep.of_grown {row : Option Nat} (h : a.grownBy w row) (hS : ∀ k, row = some k → S k) : Keep S a w :=
  ⟨h.os, h.tape, h.output, h.size, fun i hi hn => h.block i hi (fun e => hn (hS i e.symm))⟩
theorem Keep.alloc (h : Keep S a w) (o : Obj) : Keep S a (w.alloc o) := h.trans (.of_below ((Below.refl _ _).alloc (Nat.le_refl _) _))
theorem Keep.drew (h : Keep S a w) : Keep S a w.drew := ⟨h.os, h.tape, h.output, h.size, h.block⟩
theorem Keep.drewN (h : Keep S a w) (n : Nat) : Keep S a (w.drewN n) := ⟨h.os, h.tape, h.output, h.size, h.block⟩
theorem Keep.set_ (h : Keep S a w) (g i : Nat) (u : Value) (hS : a.heap.size ≤ g ∨ S g) : Keep S a (w.setCell ⟨g, i, none⟩ u) :=
  ⟨h.os, h.tape, h.output, by simpa [World.setCell] using h.size, fun k hk hn => (Below.heap_setCell _ _ _ _ (by
    rcases hS with h' | h'
    · show k ≠ g; omega
    · rintro rfl; exact hn h')).trans (h.block k hk hn)⟩
theorem Keep.below {B : Nat} (h : Keep S a w) (hS : ∀ k, S k → B ≤ k) (hB : B ≤ a.heap.size) : Below B a w :=
  ⟨h.os, h.tape, h.output, h.size, fun k hk => h.block k (by omega) (fun h' => by have := hS k h'; omega)⟩
theorem Keep.blk (h : Keep S a w) (hb : Blk a g t cs) (hS : ¬ S g) : Blk w g t cs := (h.block g hb.lt hS).trans hb
theorem Keep.own {base : Nat} {e : TypeId} {s n : Nat} {v : Value} {xs : List Value} (h : Keep S a w) (ho : a.ownsRow base e s v n xs) (hS : ∀ k, v.ownBlock = some k → ¬ S k) : w.ownsRow base e s v n xs := by
  refine ⟨ho.1, ?_⟩
  rcases ho.2 with h2 | ⟨g, cap, cur, hv, hg, hh, r⟩
  · exact .inl h2
  · have hlt : g < a.heap.size := by
      rcases Nat.lt_or_ge g a.heap.size with hlt | hge
      · exact hlt
      · rw [Array.getElem?_eq_none hge] at hh; cases hh
    exact .inr ⟨g, cap, cur, hv, hg, (h.block g hlt (hS g (by rw [hv]; rfl))).trans hh, r⟩
end

theorem blk_ne {w : World} {g g' : Nat} {t t' : TypeId} {cs cs' : List Value} (h : Blk w g t cs) (h' : Blk w g' t' cs') (hne : t ≠ t') : g ≠ g' := by
  rintro rfl
  unfold Blk at h h'
  rw [h] at h'
  injection h' with h'
  injection h' with _ ht
  exact hne ht
theorem own_own_ne {w : World} {base base' : Nat} {e e' : TypeId} {s n s' n' : Nat} {v v' : Value} {xs xs' : List Value} (h : w.ownsRow base e s v n xs) (h' : w.ownsRow base' e' s' v' n' xs') (hne : e ≠ e') : ∀ k, v.ownBlock = some k → v'.ownBlock ≠ some k := by
  intro k hk hk'
  rcases h.2 with ⟨rfl, _⟩ | ⟨g, cap, cur, rfl, _, hh, _⟩
  · simp [Value.ownBlock] at hk
  · rcases h'.2 with ⟨rfl, _⟩ | ⟨g', cap', cur', rfl, _, hh', _⟩
    · simp [Value.ownBlock] at hk'
    · simp only [Value.ownBlock, Option.some.injEq] at hk hk'
      subst hk hk'
      rw [hh] at hh'
      injection hh' with hh'
      injection hh' with _ ht
      exact hne ht


theorem own_blk_ne {w : World} {base g : Nat} {e t : TypeId} {s n : Nat} {v : Value} {xs cs : List Value} (h : w.ownsRow base e s v n xs) (hg : Blk w g t cs) (hne : e ≠ t) : some g ≠ v.ownBlock := by
  rcases h.2 with ⟨rfl, _⟩ | ⟨g', cap, cur, rfl, _, hh, _⟩
  · simp [Value.ownBlock]
  · intro he
    have : g = g' := by simpa [Value.ownBlock] using he
    subst this
    unfold Blk at hg
    rw [hg] at hh
    injection hh with hh
    injection hh with _ ht
    exact hne ht.symm

theorem blk_app {w w' : World} {base g : Nat} {e t : TypeId} {s n : Nat} {v : Value} {xs cs : List Value} {o : Obj} (hO : w.ownsRow base e s v n xs) (hG : Blk w g t cs) (hne : e ≠ t) (hg : (w.alloc o).grownBy w' v.ownBlock) : Blk w' g t cs :=
  blk_grown (hG.alloc o) hg (own_blk_ne (own_below hO ((Below.refl _ _).alloc (Nat.le_refl _) o)) (hG.alloc o) hne)


end Go.Proofs.YtalkllfgedacoaaGreatDoor
