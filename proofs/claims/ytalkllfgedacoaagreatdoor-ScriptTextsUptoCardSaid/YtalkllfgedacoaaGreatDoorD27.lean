/- A line of a script, read: script.line, whole. -/
import Derived.Test.YtalkllfgedacoaaGreatDoorD25
import Derived.Test.YtalkllfgedacoaaGreatDoorD26
import Derived.Test.YtalkllfgedacoaaGreatDoorD9
import Derived.Test.YtalkllfgedacoaaGreatDoorD22
import Derived.Test.YtalkllfgedacoaaGreatDoorD15
namespace Go.Proofs.YtalkllfgedacoaaGreatDoor
open Go.RowKit Go.Sort

set_option maxHeartbeats 4000000 in
set_option maxRecDepth 100000 in
theorem line24_short (s : ByteArray) (w : World) (hs : s.size ≤ 65536) (he : ErrT w) (ht : TabT w) (hm : MLT w) (hN : (wordsC 32 s).length < 2) : Calls Tryz.prog 48 #[.string s] w fun e w' => LineNo s w e w' ∨ LineOk s w e w' := by
  have HV := Lib.hid (lineQ_short hN)
  have HE := Lib.hid he
  have HT := Lib.hid ht
  have HM := Lib.hid hm
  have HSP := Lib.hid (SplitC_any 32 s w (by omega) hm)
  have HWZ := Lib.hid (wordsC_size 32 s)
  have hwl := wordsC_le 32 s
  unfold SplitPost at HSP
  generalize wordsC 32 s = words at *
  generalize hn : words.length = n at *
  have HN := Lib.hid hn
  have q1 : (n : Int) < 2 := by omega
  clear hn he ht hm
  go_enter Tryz.func48, Tryz.ntmps48
  go_upto_region 2 with (go_at_call 47; refine HSP.out.mono ?_; rintro er w1 ⟨L, cp, rfl, hcp, hLw, hR, hb1⟩; have HR := Lib.hid hR; have HB1 := Lib.hid hb1; clear hR hb1 hLw)
  go_wp2
  go_ret2
  exact .inl ⟨HV.out, _, _, _, rfl, HB1.out⟩

set_option maxHeartbeats 4000000 in
set_option maxRecDepth 100000 in
theorem line24_bad (s : ByteArray) (w : World) (hs : s.size ≤ 65536) (he : ErrT w) (ht : TabT w) (hm : MLT w) (hN : ¬ (wordsC 32 s).length < 2) (hq : numQ 63 ((wordsC 32 s).getD 1 ⟨#[]⟩) = none) : Calls Tryz.prog 48 #[.string s] w fun e w' => LineNo s w e w' ∨ LineOk s w e w' := by
  have HV := Lib.hid (lineQ_bad hN hq)
  have HE := Lib.hid he
  have HT := Lib.hid ht
  have HM := Lib.hid hm
  have HSP := Lib.hid (SplitC_any 32 s w (by omega) hm)
  have HW1 : ((wordsC 32 s).getD 1 ⟨#[]⟩).size ≤ s.size := wordsC_size 32 s _ (by rw [List.getD, List.getElem?_eq_getElem (by omega)]; exact List.getElem_mem _)
  have HN1 := Lib.hid (fun W (h : Below w.heap.size w W) => number24_any 63 ((wordsC 32 s).getD 1 ⟨#[]⟩) W (by decide) (Nat.le_trans HW1 (by omega)) (HE.out.below h) (HT.out.below h))
  rw [hq] at HN1
  simp only [Option.getD_none, Option.isSome_none] at HN1
  have HWZ := Lib.hid (wordsC_size 32 s)
  have hwl := wordsC_le 32 s
  unfold SplitPost at HSP
  generalize wordsC 32 s = words at *
  generalize hn : words.length = n at *
  have HN := Lib.hid hn
  have q1 : ¬ (n : Int) < 2 := by omega
  clear HW1 he ht hm
  clear hn hN hq
  go_enter Tryz.func48, Tryz.ntmps48
  go_upto_region 2 with (go_at_call 47; refine HSP.out.mono ?_; rintro er w1 ⟨L, cp, rfl, hcp, hLw, hR, hb1⟩; have HR := Lib.hid hR; have HB1 := Lib.hid hb1; clear hR hb1 hLw)
  obtain ⟨hL1, x1⟩ := rd_wordK HR.out (k := 1) (by rw [HN.out]; omega)
  generalize words.getD 1 ⟨#[]⟩ = h1 at *
  go_upto_region 5 with (go_at_call 82; refine (HN1.out w1 HB1.out).mono ?_; rintro er w2 ⟨rfl, hb2⟩; have HB2 := Lib.hid (HB1.out.trans (hb2.mono HB1.out.size)); have HR2 := Lib.hid (HR.out.below hb2); clear hb2)
  obtain ⟨hL2, x0⟩ := rd_wordK HR2.out (k := 0) (by rw [HN.out]; omega)
  clear x1 hL1 HR HB1 HN1 HSP
  go_wp2
  go_ret2
  exact .inl ⟨HV.out, _, _, _, rfl, HB2.out⟩

set_option maxHeartbeats 4000000 in
set_option maxRecDepth 100000 in
theorem line24_pick (s : ByteArray) (w : World) (hs : s.size ≤ 65536) (he : ErrT w) (ht : TabT w) (hm : MLT w) (hN : ¬ (wordsC 32 s).length < 2) (t : Nat) (hq : numQ 63 ((wordsC 32 s).getD 1 ⟨#[]⟩) = some t) (hw : (wordsC 32 s).getD 0 ⟨#[]⟩ = w_pickS) : Calls Tryz.prog 48 #[.string s] w fun e w' => LineNo s w e w' ∨ LineOk s w e w' := by
  have HV : RowKit.Hid (lineQ s = pickQ t (wordsC 32 s)) := Lib.hid (by rw [lineQ_at hN hq]; unfold lineT; rw [if_pos hw])
  have HE := Lib.hid he
  have HT := Lib.hid ht
  have HM := Lib.hid hm
  have HSP := Lib.hid (SplitC_any 32 s w (by omega) hm)
  have HW1 : ((wordsC 32 s).getD 1 ⟨#[]⟩).size ≤ s.size := wordsC_size 32 s _ (by rw [List.getD, List.getElem?_eq_getElem (by omega)]; exact List.getElem_mem _)
  have HN1 := Lib.hid (fun W (h : Below w.heap.size w W) => number24_any 63 ((wordsC 32 s).getD 1 ⟨#[]⟩) W (by decide) (Nat.le_trans HW1 (by omega)) (HE.out.below h) (HT.out.below h))
  rw [hq] at HN1
  simp only [Option.getD_some, Option.isSome_some] at HN1
  have e1 : (((wordsC 32 s).getD 0 ⟨#[]⟩).toList == [112, 105, 99, 107]) = true := by rw [hw]; decide +kernel
  have e2 : (((wordsC 32 s).getD 0 ⟨#[]⟩).toList == [99, 97, 108, 108]) = false := by rw [hw]; decide +kernel
  have e3 : (((wordsC 32 s).getD 0 ⟨#[]⟩).toList == [112, 117, 109, 112]) = false := by rw [hw]; decide +kernel
  have HWZ := Lib.hid (wordsC_size 32 s)
  have hwl := wordsC_le 32 s
  unfold SplitPost at HSP
  generalize wordsC 32 s = words at *
  generalize hn : words.length = n at *
  have HN := Lib.hid hn
  have q1 : ¬ (n : Int) < 2 := by omega
  clear HW1 he ht hm
  unfold pickQ at HV
  rw [hn] at HV
  by_cases h2 : n = 2
  · subst h2
    have HV1 : RowKit.Hid (lineQ s = some [evPick t]) := Lib.hid (by rw [HV.out, if_pos rfl])
    have HRP : RowKit.Hid (∀ W g, Blk W g 74 (evpR t).cells → Calls Tryz.prog 83 #[.slice (some ⟨g, 0, none⟩) 1 1, .int .i64 1] W fun e' w' => ∃ g, e' = .returned (.slice (some ⟨g, 0, none⟩) 1 1) ∧ Blk w' g 74 (rows (List.replicate 1 (evpR t))) ∧ Below W.heap.size W w') := Lib.hid (fun W g h => Repeat_any (evpR t) g 1 W (by decide) h)
    clear hn hN hq hw HV
    go_enter Tryz.func48, Tryz.ntmps48
    go_upto_region 2 with (go_at_call 47; refine HSP.out.mono ?_; rintro er w1 ⟨L, cp, rfl, hcp, hLw, hR, hb1⟩; have HR := Lib.hid hR; have HB1 := Lib.hid hb1; clear hR hb1 hLw)
    obtain ⟨hL1, x1⟩ := rd_wordK HR.out (k := 1) (by rw [HN.out]; omega)
    generalize words.getD 1 ⟨#[]⟩ = h1 at *
    go_upto_region 5 with (go_at_call 82; refine (HN1.out w1 HB1.out).mono ?_; rintro er w2 ⟨rfl, hb2⟩; have HB2 := Lib.hid (HB1.out.trans (hb2.mono HB1.out.size)); have HR2 := Lib.hid (HR.out.below hb2); clear hb2)
    obtain ⟨hL2, x0⟩ := rd_wordK HR2.out (k := 0) (by rw [HN.out]; omega)
    clear x1 hL1 HR HB1 HN1 HSP
    generalize words.getD 0 ⟨#[]⟩ = h0 at *
    go_wp2_with (go_at_call 83; refine (HRP.out _ _ (blk_new (cs := (evpR t).cells) rfl)).mono ?_; rintro er w3 ⟨g, rfl, hg3, hb3⟩; have HG3 := Lib.hid hg3; have HB3 := Lib.hid ((HB2.out.alloc HB2.out.size _).trans (hb3.mono (Nat.le_trans HB2.out.size (by simp)))); clear hg3 hb3)
    go_ret2
    exact .inr ⟨_, _, _, HV1.out, rfl, evs_rep (n := 1) HG3.out.rd (evpR_at _ _ _), (fun h => by cases h), HB3.out⟩
  by_cases h3 : n = 3
  · subst h3
    clear h2
    cases hk : numQ 1000 (words.getD 2 ⟨#[]⟩) with
    | none =>
      have HV1 : RowKit.Hid (lineQ s = none) := Lib.hid (by rw [HV.out, if_neg (by decide), if_pos rfl, hk])
      have HRP : RowKit.Hid (∀ W g, Blk W g 74 (evpR t).cells → Calls Tryz.prog 83 #[.slice (some ⟨g, 0, none⟩) 1 1, .int .i64 0] W fun e' w' => ∃ g, e' = .returned (.slice (some ⟨g, 0, none⟩) 0 0) ∧ Blk w' g 74 (rows (List.replicate 0 (evpR t))) ∧ Below W.heap.size W w') := Lib.hid (fun W g h => Repeat_any (evpR t) g 0 W (by omega) h)
      have HN3 := Lib.hid (fun W (h : Below w.heap.size w W) => number24_any 1000 (words.getD 2 ⟨#[]⟩) W (by decide) (Nat.le_trans (HWZ.out _ (by rw [List.getD, List.getElem?_eq_getElem (by omega)]; exact List.getElem_mem _)) (by omega)) (HE.out.below h) (HT.out.below h))
      rw [hk] at HN3
      simp only [Option.getD_none, Option.isSome_none] at HN3
      clear hn hN hq hw hk HV
      go_enter Tryz.func48, Tryz.ntmps48
      go_upto_region 2 with (go_at_call 47; refine HSP.out.mono ?_; rintro er w1 ⟨L, cp, rfl, hcp, hLw, hR, hb1⟩; have HR := Lib.hid hR; have HB1 := Lib.hid hb1; clear hR hb1 hLw)
      obtain ⟨hL1, x1⟩ := rd_wordK HR.out (k := 1) (by rw [HN.out]; omega)
      generalize words.getD 1 ⟨#[]⟩ = h1 at *
      go_upto_region 5 with (go_at_call 82; refine (HN1.out w1 HB1.out).mono ?_; rintro er w2 ⟨rfl, hb2⟩; have HB2 := Lib.hid (HB1.out.trans (hb2.mono HB1.out.size)); have HR2 := Lib.hid (HR.out.below hb2); clear hb2)
      obtain ⟨hL2, x0⟩ := rd_wordK HR2.out (k := 0) (by rw [HN.out]; omega)
      clear x1 hL1 HR HB1 HN1 HSP
      obtain ⟨_, x2⟩ := rd_wordK HR2.out (k := 2) (by rw [HN.out]; omega)
      generalize words.getD 2 ⟨#[]⟩ = h2 at *
      generalize words.getD 0 ⟨#[]⟩ = h0 at *
      go_wp2_with (first | (go_at_call 82; refine (HN3.out w2 HB2.out).mono ?_; rintro er wq ⟨rfl, hbq⟩; have HBQ := Lib.hid (HB2.out.trans (hbq.mono HB2.out.size)); clear hbq) | (go_at_call 83; refine (HRP.out _ _ (blk_new (cs := (evpR t).cells) rfl)).mono ?_; rintro er w3 ⟨g, rfl, hg3, hb3⟩; have HG3 := Lib.hid hg3; have HB3 := Lib.hid ((HBQ.out.alloc HBQ.out.size _).trans (hb3.mono (Nat.le_trans HBQ.out.size (by simp)))); clear hg3 hb3))
      go_ret2
      exact .inl ⟨HV1.out, _, _, _, rfl, HB3.out⟩
    | some k =>
      have hk1 : k ≤ 1000 := numQ_le hk
      by_cases hk0 : k = 0
      · subst hk0
        have HV1 : RowKit.Hid (lineQ s = none) := Lib.hid (by rw [HV.out, if_neg (by decide), if_pos rfl, hk]; rfl)
        have HRP : RowKit.Hid (∀ W g, Blk W g 74 (evpR t).cells → Calls Tryz.prog 83 #[.slice (some ⟨g, 0, none⟩) 1 1, .int .i64 0] W fun e' w' => ∃ g, e' = .returned (.slice (some ⟨g, 0, none⟩) 0 0) ∧ Blk w' g 74 (rows (List.replicate 0 (evpR t))) ∧ Below W.heap.size W w') := Lib.hid (fun W g h => Repeat_any (evpR t) g 0 W (by omega) h)
        have HN3 := Lib.hid (fun W (h : Below w.heap.size w W) => number24_any 1000 (words.getD 2 ⟨#[]⟩) W (by decide) (Nat.le_trans (HWZ.out _ (by rw [List.getD, List.getElem?_eq_getElem (by omega)]; exact List.getElem_mem _)) (by omega)) (HE.out.below h) (HT.out.below h))
        rw [hk] at HN3
        simp only [Option.getD_some, Option.isSome_some] at HN3
        clear hn hN hq hw hk HV
        go_enter Tryz.func48, Tryz.ntmps48
        go_upto_region 2 with (go_at_call 47; refine HSP.out.mono ?_; rintro er w1 ⟨L, cp, rfl, hcp, hLw, hR, hb1⟩; have HR := Lib.hid hR; have HB1 := Lib.hid hb1; clear hR hb1 hLw)
        obtain ⟨hL1, x1⟩ := rd_wordK HR.out (k := 1) (by rw [HN.out]; omega)
        generalize words.getD 1 ⟨#[]⟩ = h1 at *
        go_upto_region 5 with (go_at_call 82; refine (HN1.out w1 HB1.out).mono ?_; rintro er w2 ⟨rfl, hb2⟩; have HB2 := Lib.hid (HB1.out.trans (hb2.mono HB1.out.size)); have HR2 := Lib.hid (HR.out.below hb2); clear hb2)
        obtain ⟨hL2, x0⟩ := rd_wordK HR2.out (k := 0) (by rw [HN.out]; omega)
        clear x1 hL1 HR HB1 HN1 HSP
        obtain ⟨_, x2⟩ := rd_wordK HR2.out (k := 2) (by rw [HN.out]; omega)
        generalize words.getD 2 ⟨#[]⟩ = h2 at *
        generalize words.getD 0 ⟨#[]⟩ = h0 at *
        go_wp2_with (first | (go_at_call 82; refine (HN3.out w2 HB2.out).mono ?_; rintro er wq ⟨rfl, hbq⟩; have HBQ := Lib.hid (HB2.out.trans (hbq.mono HB2.out.size)); clear hbq) | (go_at_call 83; refine (HRP.out _ _ (blk_new (cs := (evpR t).cells) rfl)).mono ?_; rintro er w3 ⟨g, rfl, hg3, hb3⟩; have HG3 := Lib.hid hg3; have HB3 := Lib.hid ((HBQ.out.alloc HBQ.out.size _).trans (hb3.mono (Nat.le_trans HBQ.out.size (by simp)))); clear hg3 hb3))
        go_ret2
        exact .inl ⟨HV1.out, _, _, _, rfl, HB3.out⟩
      · have HV1 : RowKit.Hid (lineQ s = some (List.replicate k (evPick t))) := Lib.hid (by rw [HV.out, if_neg (by decide), if_pos rfl, hk]; exact if_neg hk0)
        have q5 : (0 : Int) < (k : Int) := by omega
        have q5n : 0 < k := by omega
        have HRP : RowKit.Hid (∀ W g, Blk W g 74 (evpR t).cells → Calls Tryz.prog 83 #[.slice (some ⟨g, 0, none⟩) 1 1, .int .i64 k] W fun e' w' => ∃ g, e' = .returned (.slice (some ⟨g, 0, none⟩) k k) ∧ Blk w' g 74 (rows (List.replicate k (evpR t))) ∧ Below W.heap.size W w') := Lib.hid (fun W g h => Repeat_any (evpR t) g k W (by omega) h)
        have HN3 := Lib.hid (fun W (h : Below w.heap.size w W) => number24_any 1000 (words.getD 2 ⟨#[]⟩) W (by decide) (Nat.le_trans (HWZ.out _ (by rw [List.getD, List.getElem?_eq_getElem (by omega)]; exact List.getElem_mem _)) (by omega)) (HE.out.below h) (HT.out.below h))
        rw [hk] at HN3
        simp only [Option.getD_some, Option.isSome_some] at HN3
        clear hn hN hq hw hk HV
        go_enter Tryz.func48, Tryz.ntmps48
        go_upto_region 2 with (go_at_call 47; refine HSP.out.mono ?_; rintro er w1 ⟨L, cp, rfl, hcp, hLw, hR, hb1⟩; have HR := Lib.hid hR; have HB1 := Lib.hid hb1; clear hR hb1 hLw)
        obtain ⟨hL1, x1⟩ := rd_wordK HR.out (k := 1) (by rw [HN.out]; omega)
        generalize words.getD 1 ⟨#[]⟩ = h1 at *
        go_upto_region 5 with (go_at_call 82; refine (HN1.out w1 HB1.out).mono ?_; rintro er w2 ⟨rfl, hb2⟩; have HB2 := Lib.hid (HB1.out.trans (hb2.mono HB1.out.size)); have HR2 := Lib.hid (HR.out.below hb2); clear hb2)
        obtain ⟨hL2, x0⟩ := rd_wordK HR2.out (k := 0) (by rw [HN.out]; omega)
        clear x1 hL1 HR HB1 HN1 HSP
        obtain ⟨_, x2⟩ := rd_wordK HR2.out (k := 2) (by rw [HN.out]; omega)
        generalize words.getD 2 ⟨#[]⟩ = h2 at *
        generalize words.getD 0 ⟨#[]⟩ = h0 at *
        go_wp2_with (first | (go_at_call 82; refine (HN3.out w2 HB2.out).mono ?_; rintro er wq ⟨rfl, hbq⟩; have HBQ := Lib.hid (HB2.out.trans (hbq.mono HB2.out.size)); clear hbq) | (go_at_call 83; refine (HRP.out _ _ (blk_new (cs := (evpR t).cells) rfl)).mono ?_; rintro er w3 ⟨g, rfl, hg3, hb3⟩; have HG3 := Lib.hid hg3; have HB3 := Lib.hid ((HBQ.out.alloc HBQ.out.size _).trans (hb3.mono (Nat.le_trans HBQ.out.size (by simp)))); clear hg3 hb3))
        go_ret2
        exact .inr ⟨_, some ⟨g, 0, none⟩, k, HV1.out, by rw [List.length_replicate]; rfl, by rw [List.length_replicate]; exact evs_rep (n := k) HG3.out.rd (evpR_at _ _ _), (fun h => by cases h), HB3.out⟩
  have q2 : ((n : Int) == 2) = false := beq_eq_false_iff_ne.2 (by omega)
  have q3 : ((n : Int) == 3) = false := beq_eq_false_iff_ne.2 (by omega)
  have HV1 : RowKit.Hid (lineQ s = none) := Lib.hid (by rw [HV.out, if_neg h2, if_neg h3])
  have HRP : RowKit.Hid (∀ W g, Blk W g 74 (evpR t).cells → Calls Tryz.prog 83 #[.slice (some ⟨g, 0, none⟩) 1 1, .int .i64 1] W fun e' w' => ∃ g, e' = .returned (.slice (some ⟨g, 0, none⟩) 1 1) ∧ Blk w' g 74 (rows (List.replicate 1 (evpR t))) ∧ Below W.heap.size W w') := Lib.hid (fun W g h => Repeat_any (evpR t) g 1 W (by decide) h)
  clear hn hN hq hw HV h2 h3
  go_enter Tryz.func48, Tryz.ntmps48
  go_upto_region 2 with (go_at_call 47; refine HSP.out.mono ?_; rintro er w1 ⟨L, cp, rfl, hcp, hLw, hR, hb1⟩; have HR := Lib.hid hR; have HB1 := Lib.hid hb1; clear hR hb1 hLw)
  obtain ⟨hL1, x1⟩ := rd_wordK HR.out (k := 1) (by rw [HN.out]; omega)
  generalize words.getD 1 ⟨#[]⟩ = h1 at *
  go_upto_region 5 with (go_at_call 82; refine (HN1.out w1 HB1.out).mono ?_; rintro er w2 ⟨rfl, hb2⟩; have HB2 := Lib.hid (HB1.out.trans (hb2.mono HB1.out.size)); have HR2 := Lib.hid (HR.out.below hb2); clear hb2)
  obtain ⟨hL2, x0⟩ := rd_wordK HR2.out (k := 0) (by rw [HN.out]; omega)
  clear x1 hL1 HR HB1 HN1 HSP
  generalize words.getD 0 ⟨#[]⟩ = h0 at *
  have HBQ := HB2
  go_wp2_with (go_at_call 83; refine (HRP.out _ _ (blk_new (cs := (evpR t).cells) rfl)).mono ?_; rintro er w3 ⟨g, rfl, hg3, hb3⟩; have HG3 := Lib.hid hg3; have HB3 := Lib.hid ((HBQ.out.alloc HBQ.out.size _).trans (hb3.mono (Nat.le_trans HBQ.out.size (by simp)))); clear hg3 hb3)
  go_ret2
  exact .inl ⟨HV1.out, _, _, _, rfl, HB3.out⟩

set_option maxHeartbeats 4000000 in
set_option maxRecDepth 100000 in
theorem line24_call (s : ByteArray) (w : World) (hs : s.size ≤ 65536) (he : ErrT w) (ht : TabT w) (hm : MLT w) (hN : ¬ (wordsC 32 s).length < 2) (t : Nat) (hq : numQ 63 ((wordsC 32 s).getD 1 ⟨#[]⟩) = some t) (hw : (wordsC 32 s).getD 0 ⟨#[]⟩ = w_callS) : Calls Tryz.prog 48 #[.string s] w fun e w' => LineNo s w e w' ∨ LineOk s w e w' := by
  have HV : RowKit.Hid (lineQ s = callEv t (wordsC 32 s)) := Lib.hid (by rw [lineQ_at hN hq]; unfold lineT; rw [if_neg (by rw [hw]; decide), if_pos hw])
  have HE := Lib.hid he
  have HT := Lib.hid ht
  have HM := Lib.hid hm
  have HSP := Lib.hid (SplitC_any 32 s w (by omega) hm)
  have HW1 : ((wordsC 32 s).getD 1 ⟨#[]⟩).size ≤ s.size := wordsC_size 32 s _ (by rw [List.getD, List.getElem?_eq_getElem (by omega)]; exact List.getElem_mem _)
  have HN1 := Lib.hid (fun W (h : Below w.heap.size w W) => number24_any 63 ((wordsC 32 s).getD 1 ⟨#[]⟩) W (by decide) (Nat.le_trans HW1 (by omega)) (HE.out.below h) (HT.out.below h))
  rw [hq] at HN1
  simp only [Option.getD_some, Option.isSome_some] at HN1
  have e1 : (((wordsC 32 s).getD 0 ⟨#[]⟩).toList == [112, 105, 99, 107]) = false := by rw [hw]; decide +kernel
  have e2 : (((wordsC 32 s).getD 0 ⟨#[]⟩).toList == [99, 97, 108, 108]) = true := by rw [hw]; decide +kernel
  have e3 : (((wordsC 32 s).getD 0 ⟨#[]⟩).toList == [112, 117, 109, 112]) = false := by rw [hw]; decide +kernel
  have HWZ := Lib.hid (wordsC_size 32 s)
  have hwl := wordsC_le 32 s
  unfold SplitPost at HSP
  generalize wordsC 32 s = words at *
  generalize hn : words.length = n at *
  have HN := Lib.hid hn
  have q1 : ¬ (n : Int) < 2 := by omega
  clear HW1 he ht hm
  unfold callEv at HV
  have hz2 : ∀ x ∈ words.drop 2, x.size ≤ 1073741824 := fun x hx => Nat.le_trans (HWZ.out x (List.mem_of_mem_drop hx)) (by omega)
  have hl2 : (words.drop 2).length = n - 2 := by rw [List.length_drop, hn]
  have HCA := Lib.hid (fun W A c (h : Below w.heap.size w W) hc hR => call24_any A (n - 2) c (words.drop 2) W hl2 (by omega) hc hR hz2 (HE.out.below h) (HT.out.below h) (HM.out.below h))
  have HZ : RowKit.Hid (n = 2 → words.drop 2 = []) := Lib.hid (fun e => List.eq_nil_of_length_eq_zero (by omega))
  obtain ⟨m, rfl⟩ : ∃ m, n = m + 2 := ⟨n - 2, by omega⟩
  have q1b : ¬ (m : Int) + 2 < 2 := by omega
  have q1c : ¬ (m : Int) < 0 := by omega
  rw [Nat.add_sub_cancel] at HCA
  clear hn hN hq hw hz2 hl2
  go_enter Tryz.func48, Tryz.ntmps48
  go_upto_region 2 with (go_at_call 47; refine HSP.out.mono ?_; rintro er w1 ⟨L, cp, rfl, hcp, hLw, hR, hb1⟩; have HR := Lib.hid hR; have HB1 := Lib.hid hb1; clear hR hb1 hLw)
  obtain ⟨hL1, x1⟩ := rd_wordK HR.out (k := 1) (by rw [HN.out]; omega)
  generalize words.getD 1 ⟨#[]⟩ = h1 at *
  go_upto_region 5 with (go_at_call 82; refine (HN1.out w1 HB1.out).mono ?_; rintro er w2 ⟨rfl, hb2⟩; have HB2 := Lib.hid (HB1.out.trans (hb2.mono HB1.out.size)); have HR2 := Lib.hid (HR.out.below hb2); clear hb2)
  obtain ⟨hL2, x0⟩ := rd_wordK HR2.out (k := 0) (by rw [HN.out]; omega)
  clear x1 hL1 HR HB1 HN1 HSP
  generalize words.getD 0 ⟨#[]⟩ = h0 at *
  by_cases hc2 : cp = 2
  · subst hc2
    obtain rfl : m = 0 := by omega
    have HRD : RowKit.Hid (Rd w2 (some ⟨L, 0, none⟩) (rows (words.drop 2))) := Lib.hid (by rw [HZ.out rfl]; exact rd_nil hL2)
    have HC2 := Lib.hid (HCA.out w2 (some ⟨L, 0, none⟩) 0 HB2.out (Nat.le_refl _) HRD.out)
    cases hcq : callQ (words.drop 2) with
    | none =>
      have HC3 := Lib.hid (call_no HC2.out hcq)
      rw [hcq] at HV
      unfold CallB at HC3
      clear HC2 HCA HRD hcq HZ
      generalize words.drop 2 = WD at *
      go_wp2_with (go_at_call 66; refine HC3.out.mono ?_; rintro er w3 ⟨q, rfl, hb3⟩)
      have hb4 := HB2.out.trans (hb3.mono HB2.out.size)
      go_ret2
      exact .inl ⟨HV.out, _, _, _, rfl, (hb4.alloc hb4.size _).alloc (Nat.le_trans hb4.size (by simp)) _⟩
    | some r =>
      have HC3 := Lib.hid (call_ok HC2.out hcq)
      rw [hcq] at HV
      unfold CallG at HC3
      clear HC2 HCA HRD hcq HZ
      generalize words.drop 2 = WD at *
      go_wp2_with (go_at_call 66; refine HC3.out.mono ?_; rintro er w3 ⟨A, c, rfl, hr3, hf3, hb3⟩)
      have hb4 := HB2.out.trans (hb3.mono HB2.out.size)
      go_ret2
      exact .inr ⟨_, _, _, HV.out, rfl, evs_one (a := ⟨2, t, ⟨r.kind, r.arg, r.value, r.dflt, A, r.cs.length, c⟩, 0, none, 0, 0⟩) (blk_new (by simp)) ⟨⟨rfl, rfl, rfl, rfl, rfl, rfl, ⟨rfl, (hr3.below ((Below.refl w3.heap.size w3).alloc (Nat.le_refl _) _)).below ((Below.refl _ _).alloc (Nat.le_refl _) _)⟩, rfl, rfl, .inl rfl, fun _ => ⟨rfl, rfl⟩⟩, fun _ b o h => Nat.le_trans HB2.out.size (hf3 b o h), fun h => absurd rfl h⟩, (fun h => by cases h), (hb4.alloc hb4.size _).alloc (Nat.le_trans hb4.size (by simp)) _⟩
  · have q6 : ¬ cp - 2 = 0 := by omega
    have HRD : RowKit.Hid (Rd w2 (some ⟨L, 2, none⟩) (rows (words.drop 2))) := Lib.hid (by
      by_cases hm0 : m = 0
      · rw [HZ.out (by omega)]; exact rd_nil hL2
      · exact rd_dropW HR2.out (by rw [HN.out]; omega))
    have HC2 := Lib.hid (HCA.out w2 (some ⟨L, 2, none⟩) (cp - 2) HB2.out (by omega) HRD.out)
    cases hcq : callQ (words.drop 2) with
    | none =>
      have HC3 := Lib.hid (call_no HC2.out hcq)
      rw [hcq] at HV
      unfold CallB at HC3
      clear HC2 HCA HRD hcq HZ
      generalize words.drop 2 = WD at *
      go_wp2_with (go_at_call 66; refine HC3.out.mono ?_; rintro er w3 ⟨q, rfl, hb3⟩)
      have hb4 := HB2.out.trans (hb3.mono HB2.out.size)
      go_ret2
      exact .inl ⟨HV.out, _, _, _, rfl, (hb4.alloc hb4.size _).alloc (Nat.le_trans hb4.size (by simp)) _⟩
    | some r =>
      have HC3 := Lib.hid (call_ok HC2.out hcq)
      rw [hcq] at HV
      unfold CallG at HC3
      clear HC2 HCA HRD hcq HZ
      generalize words.drop 2 = WD at *
      go_wp2_with (go_at_call 66; refine HC3.out.mono ?_; rintro er w3 ⟨A, c, rfl, hr3, hf3, hb3⟩)
      have hb4 := HB2.out.trans (hb3.mono HB2.out.size)
      go_ret2
      exact .inr ⟨_, _, _, HV.out, rfl, evs_one (a := ⟨2, t, ⟨r.kind, r.arg, r.value, r.dflt, A, r.cs.length, c⟩, 0, none, 0, 0⟩) (blk_new (by simp)) ⟨⟨rfl, rfl, rfl, rfl, rfl, rfl, ⟨rfl, (hr3.below ((Below.refl w3.heap.size w3).alloc (Nat.le_refl _) _)).below ((Below.refl _ _).alloc (Nat.le_refl _) _)⟩, rfl, rfl, .inl rfl, fun _ => ⟨rfl, rfl⟩⟩, fun _ b o h => Nat.le_trans HB2.out.size (hf3 b o h), fun h => absurd rfl h⟩, (fun h => by cases h), (hb4.alloc hb4.size _).alloc (Nat.le_trans hb4.size (by simp)) _⟩

end Go.Proofs.YtalkllfgedacoaaGreatDoor

namespace Go.Proofs.YtalkllfgedacoaaGreatDoor
open Go.RowKit Go.Sort

set_option maxHeartbeats 4000000 in
set_option maxRecDepth 100000 in
theorem line24_pump (s : ByteArray) (w : World) (hs : s.size ≤ 65536) (he : ErrT w) (ht : TabT w) (hm : MLT w) (hN : ¬ (wordsC 32 s).length < 2) (t : Nat) (hq : numQ 63 ((wordsC 32 s).getD 1 ⟨#[]⟩) = some t) (hw : (wordsC 32 s).getD 0 ⟨#[]⟩ = w_pumpS) (h3 : 3 < (wordsC 32 s).length) : Calls Tryz.prog 48 #[.string s] w fun e w' => LineNo s w e w' ∨ LineOk s w e w' := by
  have HV : RowKit.Hid (lineQ s = pumpQ t (wordsC 32 s)) := Lib.hid (by rw [lineQ_at hN hq]; unfold lineT; rw [if_neg (by rw [hw]; decide), if_neg (by rw [hw]; decide), if_pos hw])
  have HE := Lib.hid he
  have HT := Lib.hid ht
  have HM := Lib.hid hm
  have HSP := Lib.hid (SplitC_any 32 s w (by omega) hm)
  have HW1 : ((wordsC 32 s).getD 1 ⟨#[]⟩).size ≤ s.size := wordsC_size 32 s _ (by rw [List.getD, List.getElem?_eq_getElem (by omega)]; exact List.getElem_mem _)
  have HN1 := Lib.hid (fun W (h : Below w.heap.size w W) => number24_any 63 ((wordsC 32 s).getD 1 ⟨#[]⟩) W (by decide) (Nat.le_trans HW1 (by omega)) (HE.out.below h) (HT.out.below h))
  rw [hq] at HN1
  simp only [Option.getD_some, Option.isSome_some] at HN1
  have e1 : (((wordsC 32 s).getD 0 ⟨#[]⟩).toList == [112, 105, 99, 107]) = false := by rw [hw]; decide +kernel
  have e2 : (((wordsC 32 s).getD 0 ⟨#[]⟩).toList == [99, 97, 108, 108]) = false := by rw [hw]; decide +kernel
  have e3 : (((wordsC 32 s).getD 0 ⟨#[]⟩).toList == [112, 117, 109, 112]) = true := by rw [hw]; decide +kernel
  have HWZ := Lib.hid (wordsC_size 32 s)
  have hwl := wordsC_le 32 s
  unfold SplitPost at HSP
  generalize wordsC 32 s = words at *
  generalize hn : words.length = n at *
  have HN := Lib.hid hn
  have q1 : ¬ (n : Int) < 2 := by omega
  clear HW1 he ht hm
  have HV2 : RowKit.Hid (lineQ s = match numsQ 65535 (words.drop 2) with | none => none | some n => pumpN t n) := Lib.hid (by rw [HV.out]; unfold pumpQ; rw [if_neg (by omega)]; cases numsQ 65535 (words.drop 2) <;> rfl)
  clear HV
  have hz2 : ∀ x ∈ words.drop 2, x.size ≤ 4294967296 := fun x hx => Nat.le_trans (HWZ.out x (List.mem_of_mem_drop hx)) (by omega)
  have hl2 : (words.drop 2).length = n - 2 := by rw [List.length_drop, hn]
  have HNB := Lib.hid (fun W A c (h : Below w.heap.size w W) hR => numbers24_any 65535 A (n - 2) c (words.drop 2) W (by decide) hl2 (by omega) hR hz2 (HE.out.below h) (HT.out.below h))
  have HL2 := Lib.hid hl2
  obtain ⟨m, rfl⟩ : ∃ m, n = m + 4 := ⟨n - 4, by omega⟩
  have q1b : ¬ (m : Int) + 4 < 2 := by omega
  have q4b : (3 : Int) < (m : Int) + 4 := by omega
  rw [show m + 4 - 2 = m + 2 from by omega] at HNB HL2
  clear hn hN hq hw hz2 hl2 h3 q1
  go_enter Tryz.func48, Tryz.ntmps48
  go_upto_region 2 with (go_at_call 47; refine HSP.out.mono ?_; rintro er w1 ⟨L, cp, rfl, hcp, hLw, hR, hb1⟩; have HR := Lib.hid hR; have HB1 := Lib.hid hb1; clear hR hb1 hLw)
  obtain ⟨hL1, x1⟩ := rd_wordK HR.out (k := 1) (by rw [HN.out]; omega)
  generalize words.getD 1 ⟨#[]⟩ = h1 at *
  go_upto_region 5 with (go_at_call 82; refine (HN1.out w1 HB1.out).mono ?_; rintro er w2 ⟨rfl, hb2⟩; have HB2 := Lib.hid (HB1.out.trans (hb2.mono HB1.out.size)); have HR2 := Lib.hid (HR.out.below hb2); clear hb2)
  obtain ⟨hL2, x0⟩ := rd_wordK HR2.out (k := 0) (by rw [HN.out]; omega)
  clear x1 hL1 HR HB1 HN1 HSP
  generalize words.getD 0 ⟨#[]⟩ = h0 at *
  have q6 : ¬ cp - 2 = 0 := by omega
  have HRD := Lib.hid (rd_dropW (k := 2) HR2.out (by rw [HN.out]; omega))
  have HC2 := Lib.hid (HNB.out w2 (some ⟨L, 2, none⟩) (cp - 2) HB2.out HRD.out)
  cases hcq : numsQ 65535 (words.drop 2) with
  | none =>
    have HC3 := Lib.hid (nums_no HC2.out hcq)
    rw [hcq] at HV2
    unfold NumB at HC3
    clear HC2 HNB HRD hcq HL2
    generalize words.drop 2 = WD at *
    go_wp2_with (go_at_call 84; refine HC3.out.mono ?_; rintro er w3 ⟨rfl, hb3⟩)
    have hb4 := HB2.out.trans (hb3.mono HB2.out.size)
    go_ret2
    exact .inl ⟨HV2.out, _, _, _, rfl, hb4⟩
  | some x =>
    have HC3 := Lib.hid (nums_ok HC2.out hcq ((numsQ_len hcq).trans HL2.out))
    have HXL : RowKit.Hid (x.length = m + 2) := Lib.hid ((numsQ_len hcq).trans HL2.out)
    rw [hcq] at HV2
    unfold NumG at HC3
    clear HC2 HNB HRD hcq HL2
    generalize words.drop 2 = WD at *
    go_upto_region 18 with (go_at_call 84; refine HC3.out.mono ?_; rintro er w3 ⟨A, c, rfl, hown, hb3⟩; have HB3 := Lib.hid (HB2.out.trans (hb3.mono HB2.out.size)); have HO3 := Lib.hid hown; clear hb3 hown)
    obtain ⟨bb, rfl, hbw, hbl, hcs⟩ := nums_cell HO3.out (by omega)
    have y0 := hcs 0 (by rw [HXL.out]; omega)
    have HY0 := Lib.hid y0
    have hcl := own_le HO3.out
    have HBBW := Lib.hid (Nat.le_trans HB2.out.size hbw)
    have HRT := Lib.hid (nums_tailR hcs hbl)
    have HST := Lib.hid (fun W (hb : Below w3.heap.size w3 W) => Start_any (x.getD 0 0 : Nat) (some ⟨bb, 1, none⟩) (m + 1) (c - 1) (x.tail.map Int.ofNat) W (by rw [List.length_map, List.length_tail, HXL.out]; rfl) (by omega) (by omega) (HRT.out.below hb))
    have HOL : RowKit.Hid ((x.tail.map Int.ofNat).length = m + 1) := Lib.hid (by rw [List.length_map, List.length_tail, HXL.out]; rfl)
    unfold pumpN at HV2
    clear hcs HO3 HXL
    have q7 : ¬ c - 1 = 0 := by omega
    have q8 : (1 : Int) ≤ (m : Int) + 2 := by omega
    have HLE := Lib.hid hcl
    generalize x.getD 0 0 = n0 at *
    generalize x.tail.map Int.ofNat = os at *
    generalize startQ (n0 : Int) os = sq at *
    have q9 : (0 : Int) < (m : Int) + 2 := by omega
    have q9n : 0 < m + 2 := by omega
    have q10 : ¬ c = 1 := by omega
    have hnb : ¬ bb = w3.heap.size := by omega
    have hnb2 : ¬ w3.heap.size = bb := by omega
    have HW0 : RowKit.Hid (Below w3.heap.size w3 w3.drew) := Lib.hid (Below.drewN' (Below.refl _ _) 1)
    have HWA := Lib.hid ((Below.refl w3.heap.size w3).alloc (Nat.le_refl _) (.cells #[.bool false, .bool false, .bool false, .int .i64 0, .slice none 0 0, .int .i64 0, .int .i64 0] 142))
    have HWD : RowKit.Hid (Below w3.heap.size w3 (w3.alloc (.cells #[.bool false, .bool false, .bool false, .int .i64 0, .slice none 0 0, .int .i64 0, .int .i64 0] 142)).drew) := Lib.hid (Below.drewN' HWA.out 1)
    have HRZ : RowKit.Hid (Blk (w3.alloc (.cells #[.bool false, .bool false, .bool false, .int .i64 0, .slice none 0 0, .int .i64 0, .int .i64 0] 142)) w3.heap.size 142 pmp0) := Lib.hid (blk_new (cs := pmp0) rfl)
    have hrz := HRZ.out.lt
    go_region_held3 (fun w' => w'.cell? ⟨bb, 0, none⟩ = some (.int .i64 (n0 : Int))) (first | go_keep | (simp only [hk1]; go_keep)) (first
      | (go_at_call 85; (with_reducible refine (HST.out w3.drew HW0.out).mono ?_); rintro er w4 ⟨⟨p, rfl⟩, hb4⟩; have hB4 : Below w3.heap.size w3 w4 := ⟨hb4.os, hb4.tape, hb4.output, hb4.size, hb4.block⟩; have hk1 := fun o => hB4.cell (p := ⟨bb, o, none⟩) hbl)
      | (go_at_call 85; (with_reducible refine (HST.out (w3.alloc (.cells #[.bool false, .bool false, .bool false, .int .i64 0, .slice none 0 0, .int .i64 0, .int .i64 0] 142)).drew HWD.out).mono ?_); rintro er w4 ⟨⟨p, rfl⟩, hb4⟩; have hA4 : Below (w3.alloc (.cells #[.bool false, .bool false, .bool false, .int .i64 0, .slice none 0 0, .int .i64 0, .int .i64 0] 142)).heap.size (w3.alloc (.cells #[.bool false, .bool false, .bool false, .int .i64 0, .slice none 0 0, .int .i64 0, .int .i64 0] 142)) w4 := ⟨hb4.os, hb4.tape, hb4.output, hb4.size, hb4.block⟩; have hB4 : Below w3.heap.size w3 w4 := HWA.out.trans (hA4.mono HWA.out.size); have hk1 := fun o => hB4.cell (p := ⟨bb, o, none⟩) hbl; have hR := HRZ.out.below hA4 hrz; have x0 := hR.cell (i := 0) rfl; have f0 := hR.frozen 0; have x1 := hR.cell (i := 1) rfl; have f1 := hR.frozen 1; have x2 := hR.cell (i := 2) rfl; have f2 := hR.frozen 2; have x3 := hR.cell (i := 3) rfl; have f3 := hR.frozen 3; have x4 := hR.cell (i := 4) rfl; have f4 := hR.frozen 4; have x5 := hR.cell (i := 5) rfl; have f5 := hR.frozen 5; have x6 := hR.cell (i := 6) rfl; have f6 := hR.frozen 6))
    all_goals
      (first
        | (obtain ⟨WX, hWX⟩ : ∃ WX : World, WX = (((((((w4.setCell ⟨w3.heap.size, 0, none⟩ (.bool p.on)).setCell ⟨w3.heap.size, 1, none⟩ (.bool p.shut)).setCell ⟨w3.heap.size, 2, none⟩ (.bool p.over)).setCell ⟨w3.heap.size, 3, none⟩ (.int .i64 p.inn)).setCell ⟨w3.heap.size, 4, none⟩ (.slice p.A p.n p.c)).setCell ⟨w3.heap.size, 5, none⟩ (.int .i64 p.at_)).setCell ⟨w3.heap.size, 6, none⟩ (.int .i64 p.value)) := ⟨_, rfl⟩
           rw [← hWX]
           have hB7 : Below w3.heap.size w3 WX := by rw [hWX]; exact (((((((hB4.setCell (p := ⟨w3.heap.size, 0, none⟩) (Nat.le_refl _) (.bool p.on)).setCell (p := ⟨w3.heap.size, 1, none⟩) (Nat.le_refl _) (.bool p.shut)).setCell (p := ⟨w3.heap.size, 2, none⟩) (Nat.le_refl _) (.bool p.over)).setCell (p := ⟨w3.heap.size, 3, none⟩) (Nat.le_refl _) (.int .i64 p.inn)).setCell (p := ⟨w3.heap.size, 4, none⟩) (Nat.le_refl _) (.slice p.A p.n p.c)).setCell (p := ⟨w3.heap.size, 5, none⟩) (Nat.le_refl _) (.int .i64 p.at_)).setCell (p := ⟨w3.heap.size, 6, none⟩) (Nat.le_refl _) (.int .i64 p.value))
           have HB7 := Lib.hid hB7
           clear hWX hB7)
        | (obtain ⟨WX, hWX⟩ : ∃ WX : World, WX = (w4.alloc (.cells #[.bool p.on, .bool p.shut, .bool p.over, .int .i64 p.inn, .slice p.A p.n p.c, .int .i64 p.at_, .int .i64 p.value] 142)) := ⟨_, rfl⟩
           rw [← hWX]
           have hB7 : Below w3.heap.size w3 WX := by rw [hWX]; exact hB4.alloc hB4.size _
           have HB7 := Lib.hid hB7
           clear hWX hB7))
      have yX := (HB7.out.cell (p := ⟨bb, 0, none⟩) hbl).trans HY0.out
      have HRX := Lib.hid (HRT.out.below HB7.out)
      have HBX := Lib.hid (HB3.out.trans (HB7.out.mono HB3.out.size))
      have hbX := Nat.lt_of_lt_of_le hbl HB7.out.size
      clear hk1 hB4 hb4 HC3 HB7
      go_upto_region 19 with (fail)
      go_region
      go_wp2
      go_ret2
      have hbf : Below WX.heap.size WX ((WX.alloc (.cells #[.int .i64 3, .int .i64 t, .int .i64 0, .int .i64 0, .int .i64 0, .bool false, .slice none 0 0, .int .i64 n0, .slice (some ⟨bb, 1, none⟩) (m + 1) (c - 1)] 74)).drew) := Below.drewN' ((Below.refl _ _).alloc (Nat.le_refl _) _) 1
      cases sq with
      | false => exact .inl ⟨HV2.out.trans (if_neg Bool.false_ne_true), _, _, _, rfl, HBX.out.trans (hbf.mono HBX.out.size)⟩
      | true => exact .inr ⟨_, _, _, HV2.out.trans (if_pos rfl), rfl, evs_one (a := ⟨3, t, ⟨0, 0, 0, false, none, 0, 0⟩, n0, some ⟨bb, 1, none⟩, m + 1, c - 1⟩) (Blk.drew (blk_new rfl)) ⟨⟨rfl, rfl, rfl, rfl, rfl, rfl, ⟨rfl, .inl rfl⟩, rfl, HOL.out, HRX.out.below hbf, fun h => by cases h⟩, fun h => absurd rfl h, fun _ b o h => by injection h with h; injection h with h1 h2; rw [← h1]; exact HBBW.out⟩, (fun h => by cases h), HBX.out.trans (hbf.mono HBX.out.size)⟩

set_option maxHeartbeats 4000000 in
set_option maxRecDepth 100000 in
theorem line24_else (s : ByteArray) (w : World) (hs : s.size ≤ 65536) (he : ErrT w) (ht : TabT w) (hm : MLT w) (hN : ¬ (wordsC 32 s).length < 2) (t : Nat) (hq : numQ 63 ((wordsC 32 s).getD 1 ⟨#[]⟩) = some t) (hw1 : ¬ (wordsC 32 s).getD 0 ⟨#[]⟩ = w_pickS) (hw2 : ¬ (wordsC 32 s).getD 0 ⟨#[]⟩ = w_callS) (hw3 : (wordsC 32 s).getD 0 ⟨#[]⟩ = w_pumpS → ¬ 3 < (wordsC 32 s).length) : Calls Tryz.prog 48 #[.string s] w fun e w' => LineNo s w e w' ∨ LineOk s w e w' := by
  have HV : RowKit.Hid (lineQ s = none) := Lib.hid (by
    rw [lineQ_at hN hq]
    unfold lineT
    rw [if_neg hw1, if_neg hw2]
    by_cases h : (wordsC 32 s).getD 0 ⟨#[]⟩ = w_pumpS
    · rw [if_pos h]
      unfold pumpQ
      rw [if_pos (by have := hw3 h; omega)]
    · rw [if_neg h])
  have e1 : (((wordsC 32 s).getD 0 ⟨#[]⟩).toList == [112, 105, 99, 107]) = false := eqL hw1 (by decide +kernel)
  have e2 : (((wordsC 32 s).getD 0 ⟨#[]⟩).toList == [99, 97, 108, 108]) = false := eqL hw2 (by decide +kernel)
  by_cases hw : (wordsC 32 s).getD 0 ⟨#[]⟩ = w_pumpS
  · have h3 := hw3 hw
    have e3 : (((wordsC 32 s).getD 0 ⟨#[]⟩).toList == [112, 117, 109, 112]) = true := by rw [hw]; decide +kernel
    clear hw1 hw2 hw3 hw
    have HE := Lib.hid he
    have HT := Lib.hid ht
    have HM := Lib.hid hm
    have HSP := Lib.hid (SplitC_any 32 s w (by omega) hm)
    have HW1 : ((wordsC 32 s).getD 1 ⟨#[]⟩).size ≤ s.size := wordsC_size 32 s _ (by rw [List.getD, List.getElem?_eq_getElem (by omega)]; exact List.getElem_mem _)
    have HN1 := Lib.hid (fun W (h : Below w.heap.size w W) => number24_any 63 ((wordsC 32 s).getD 1 ⟨#[]⟩) W (by decide) (Nat.le_trans HW1 (by omega)) (HE.out.below h) (HT.out.below h))
    rw [hq] at HN1
    simp only [Option.getD_some, Option.isSome_some] at HN1
    have HWZ := Lib.hid (wordsC_size 32 s)
    have hwl := wordsC_le 32 s
    unfold SplitPost at HSP
    generalize wordsC 32 s = words at *
    generalize hn : words.length = n at *
    have HN := Lib.hid hn
    have q1 : ¬ (n : Int) < 2 := by omega
    clear HW1 he ht hm
    have q4 : ¬ (3 : Int) < (n : Int) := by omega
    clear hn hN hq
    go_enter Tryz.func48, Tryz.ntmps48
    go_upto_region 2 with (go_at_call 47; refine HSP.out.mono ?_; rintro er w1 ⟨L, cp, rfl, hcp, hLw, hR, hb1⟩; have HR := Lib.hid hR; have HB1 := Lib.hid hb1; clear hR hb1 hLw)
    obtain ⟨hL1, x1⟩ := rd_wordK HR.out (k := 1) (by rw [HN.out]; omega)
    generalize words.getD 1 ⟨#[]⟩ = h1 at *
    go_upto_region 5 with (go_at_call 82; refine (HN1.out w1 HB1.out).mono ?_; rintro er w2 ⟨rfl, hb2⟩; have HB2 := Lib.hid (HB1.out.trans (hb2.mono HB1.out.size)); have HR2 := Lib.hid (HR.out.below hb2); clear hb2)
    obtain ⟨hL2, x0⟩ := rd_wordK HR2.out (k := 0) (by rw [HN.out]; omega)
    clear x1 hL1 HR HB1 HN1 HSP
    generalize words.getD 0 ⟨#[]⟩ = h0 at *
    go_wp2_with fail
    go_ret2
    exact .inl ⟨HV.out, _, _, _, rfl, HB2.out⟩
  · have e3 : (((wordsC 32 s).getD 0 ⟨#[]⟩).toList == [112, 117, 109, 112]) = false := eqL hw (by decide +kernel)
    clear hw1 hw2 hw3 hw
    have HE := Lib.hid he
    have HT := Lib.hid ht
    have HM := Lib.hid hm
    have HSP := Lib.hid (SplitC_any 32 s w (by omega) hm)
    have HW1 : ((wordsC 32 s).getD 1 ⟨#[]⟩).size ≤ s.size := wordsC_size 32 s _ (by rw [List.getD, List.getElem?_eq_getElem (by omega)]; exact List.getElem_mem _)
    have HN1 := Lib.hid (fun W (h : Below w.heap.size w W) => number24_any 63 ((wordsC 32 s).getD 1 ⟨#[]⟩) W (by decide) (Nat.le_trans HW1 (by omega)) (HE.out.below h) (HT.out.below h))
    rw [hq] at HN1
    simp only [Option.getD_some, Option.isSome_some] at HN1
    have HWZ := Lib.hid (wordsC_size 32 s)
    have hwl := wordsC_le 32 s
    unfold SplitPost at HSP
    generalize wordsC 32 s = words at *
    generalize hn : words.length = n at *
    have HN := Lib.hid hn
    have q1 : ¬ (n : Int) < 2 := by omega
    clear HW1 he ht hm
    clear hn hN hq
    go_enter Tryz.func48, Tryz.ntmps48
    go_upto_region 2 with (go_at_call 47; refine HSP.out.mono ?_; rintro er w1 ⟨L, cp, rfl, hcp, hLw, hR, hb1⟩; have HR := Lib.hid hR; have HB1 := Lib.hid hb1; clear hR hb1 hLw)
    obtain ⟨hL1, x1⟩ := rd_wordK HR.out (k := 1) (by rw [HN.out]; omega)
    generalize words.getD 1 ⟨#[]⟩ = h1 at *
    go_upto_region 5 with (go_at_call 82; refine (HN1.out w1 HB1.out).mono ?_; rintro er w2 ⟨rfl, hb2⟩; have HB2 := Lib.hid (HB1.out.trans (hb2.mono HB1.out.size)); have HR2 := Lib.hid (HR.out.below hb2); clear hb2)
    obtain ⟨hL2, x0⟩ := rd_wordK HR2.out (k := 0) (by rw [HN.out]; omega)
    clear x1 hL1 HR HB1 HN1 HSP
    generalize words.getD 0 ⟨#[]⟩ = h0 at *
    go_wp2_with fail
    go_ret2
    exact .inl ⟨HV.out, _, _, _, rfl, HB2.out⟩

theorem line24_any (s : ByteArray) (w : World) (hs : s.size ≤ 65536) (he : ErrT w) (ht : TabT w) (hm : MLT w) : Calls Tryz.prog 48 #[.string s] w fun e w' => LineNo s w e w' ∨ LineOk s w e w' := by
  by_cases hN : (wordsC 32 s).length < 2
  · exact line24_short s w hs he ht hm hN
  cases hq : numQ 63 ((wordsC 32 s).getD 1 ⟨#[]⟩) with
  | none => exact line24_bad s w hs he ht hm hN hq
  | some t =>
    by_cases h1 : (wordsC 32 s).getD 0 ⟨#[]⟩ = w_pickS
    · exact line24_pick s w hs he ht hm hN t hq h1
    by_cases h2 : (wordsC 32 s).getD 0 ⟨#[]⟩ = w_callS
    · exact line24_call s w hs he ht hm hN t hq h2
    by_cases h3 : (wordsC 32 s).getD 0 ⟨#[]⟩ = w_pumpS ∧ 3 < (wordsC 32 s).length
    · exact line24_pump s w hs he ht hm hN t hq h3.1 h3.2
    · exact line24_else s w hs he ht hm hN t hq h1 h2 (fun e h => h3 ⟨e, h⟩)

end Go.Proofs.YtalkllfgedacoaaGreatDoor
