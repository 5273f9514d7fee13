/- May a pump be? The document's, walked. -/
import Derived.Test.YtalkllfgedacoaaGreatDoorD26
namespace Go.Proofs.YtalkllfgedacoaaGreatDoor
open Go.RowKit Go.Sort

theorem own_capE {w : World} {base : Nat} {e : TypeId} {s n : Nat} {A : Option Addr} {c : Nat} {xs : List Value} (h : w.ownsRow base e s (.slice A n c) n xs) : n ≤ c := by
  rcases h.2 with ⟨hv, h0⟩ | ⟨g, cap, cur, hv, _, _, hc, _⟩
  · omega
  · injection hv with h1 h2 h3
    omega
def allK (L : List Int) (k : Nat) : Bool := (L.take k).all handQ && decide (L.take k).Nodup
theorem allK_zero (L : List Int) : allK L 0 = true := by unfold allK; simp
theorem allK_step {L : List Int} {k : Nat} (hk : k < L.length) : allK L (k + 1) = (allK L k && (handQ (L.getD k 0) && !(L.take k).contains (L.getD k 0))) := by
  unfold allK
  rw [List.take_succ_eq_append_getElem hk]
  have e : L.getD k 0 = L[k] := by rw [List.getD, List.getElem?_eq_getElem hk]; rfl
  rw [e]
  generalize L[k] = x
  generalize L.take k = l
  rw [Bool.eq_iff_iff]
  simp only [List.all_append, List.all_cons, List.all_nil, Bool.and_true, Bool.and_eq_true, decide_eq_true_eq, List.nodup_append, List.mem_cons, List.nodup_cons, List.not_mem_nil, not_false_eq_true, true_and, List.nodup_nil, and_true, Bool.not_eq_true', decide_eq_false_iff_not, List.contains_eq_mem, or_false]
  constructor
  · rintro ⟨⟨h1, h2⟩, h3, h4⟩
    exact ⟨⟨h1, h3⟩, h2, fun hx => h4 x hx x rfl rfl⟩
  · rintro ⟨⟨h1, h3⟩, h2, h4⟩
    refine ⟨⟨h1, h2⟩, h3, ?_⟩
    rintro a ha b rfl rfl
    exact h4 ha
theorem allK_no {i : Int} {o : List Int} {k : Nat} (h : allK (i :: o) k = false) : startQ i o = false := by
  rw [Bool.eq_false_iff] at h ⊢
  intro hc
  apply h
  unfold startQ at hc
  rw [Bool.and_eq_true, Bool.and_eq_true, Bool.and_eq_true, decide_eq_true_eq, decide_eq_true_eq, List.all_eq_true] at hc
  unfold allK
  rw [Bool.and_eq_true, decide_eq_true_eq, List.all_eq_true]
  refine ⟨fun x hx => ?_, hc.2.sublist (List.take_sublist k _)⟩
  rcases List.mem_cons.1 (List.mem_of_mem_take hx) with rfl | hx
  · exact hc.1.1.1
  · exact hc.1.2 x hx
theorem allK_end {i : Int} {o : List Int} (h : allK (i :: o) (o.length + 1) = true) (h2 : 1 ≤ o.length ∧ o.length ≤ 8) : startQ i o = true := by
  unfold allK at h
  rw [List.take_of_length_le (by simp), Bool.and_eq_true, List.all_cons, Bool.and_eq_true] at h
  unfold startQ
  rw [h.1.1, decide_eq_true h2, h.1.2, h.2]
  rfl
theorem has_step {L : List Int} {x : Int} {j : Nat} (hj : j < L.length) : (L.take (j + 1)).contains x = ((L.take j).contains x || decide (L.getD j 0 = x)) := by
  rw [List.take_succ_eq_append_getElem hj]
  have e : L.getD j 0 = L[j] := by rw [List.getD, List.getElem?_eq_getElem hj]; rfl
  rw [e, Bool.eq_iff_iff]
  simp only [List.contains_eq_mem, List.mem_append, List.mem_singleton, Bool.or_eq_true, decide_eq_true_eq]
  exact or_congr Iff.rfl eq_comm
theorem has_more {L : List Int} {x : Int} {j k : Nat} (h : (L.take j).contains x = true) (hj : j ≤ k) : (L.take k).contains x = true := by
  simp only [List.contains_eq_mem, decide_eq_true_eq] at h ⊢
  exact (List.take_sublist_take_left hj).mem h

set_option maxHeartbeats 4000000 in
set_option maxRecDepth 100000 in
theorem rStart_zero (i0 : Int) (A : Option Addr) (n c : Nat) (o : List Int) (w : World) (hl : o.length = n) (hn : n ≤ 1048576) (hc : A = none → n = 0 ∧ c = 0) (hA : Rd w A (ints o)) (hb : n < 1) : Calls Tryz.prog 88 #[.int .i64 i0, .slice A n c] w fun e w' => (∃ p : Pmp, e = .returned (.tuple #[pmpV p, .bool (startQ i0 o)])) ∧ Below w.heap.size w w' := by
  have HV : startQ i0 o = false := startQ_len (by omega)
  rw [HV]
  have HR0 : RowKit.Hid (Blk (w.alloc (.cells #[.bool false, .bool false, .bool false, .int .i64 0, .slice none 0 0, .int .i64 0, .int .i64 0] 142)) w.heap.size 142 pmp0) := Lib.hid (blk_new (cs := pmp0) rfl)
  have HB0 := Lib.hid ((Below.refl w.heap.size w).alloc (Nat.le_refl _) (.cells #[.bool false, .bool false, .bool false, .int .i64 0, .slice none 0 0, .int .i64 0, .int .i64 0] 142))
  have HA := Lib.hid (hA.below HB0.out)
  have HL := Lib.hid hl
  have HNIL := Lib.hid hc
  have q0 : (n : Int) < 1 := by omega
  clear HV hl hc hA
  go_enter Tryz.func88, Tryz.ntmps88
  go_upto_region 1 with (fail)
  generalize w.alloc (.cells #[.bool false, .bool false, .bool false, .int .i64 0, .slice none 0 0, .int .i64 0, .int .i64 0] 142) = W0 at *
  have HO1 : RowKit.Hid ((W0.alloc (.cells #[.int .i64 i0] 3)).ownsRow W0.heap.size 3 1 (.slice (some ⟨W0.heap.size, 0, none⟩) 1 1) 1 (ints [i0])) := Lib.hid (own_blk1 (blk_new (cs := ints [i0]) rfl) (Nat.le_refl _) rfl (by unfold maxLen; omega))
  have HB1 := Lib.hid ((Below.refl W0.heap.size W0).alloc (Nat.le_refl _) (.cells #[.int .i64 i0] 3))
  have HA1 := Lib.hid (HA.out.below HB1.out)
  go_upto_region 2 with (at_builtin; refine wpList_app rfl (.tmp 15) (.tmp 16) 53 3 rfl W0.heap.size (.int .i64 0) 1 8 Tryz.underlying53 int_info rfl (by decide) (some ⟨W0.heap.size, 0, none⟩) 1 1 (ints [i0]) rfl HO1.out A n c (ints o) rfl HNIL.out (by rw [ints_length, HL.out]; exact (Nat.mul_one _).symm) HA1.out (ints_one _) (n + 1) (Nat.add_comm 1 _) (ints (i0 :: o)) rfl (by unfold maxLen; omega) (by omega) (by rw [World.size_alloc]; omega) ?_; intro A4 c4 w4 hown4 hg4 hb4; have HO4 := Lib.hid hown4; have HR4 := Lib.hid (HR0.out.below (HB1.out.trans hb4) HR0.out.lt); have HB4 := Lib.hid (HB0.out.trans ((HB1.out.trans hb4).mono HB0.out.size)); clear hown4 hg4 hb4)
  go_upto_region 3 with (fail)
  refine wp_region_lit ?_
  refine wpList_buildTo rfl 142 #[] rfl (some 26) rfl pmp0.toArray (by kernel_rfl) ?_
  refine wpList_store_row rfl 142 (.tmp 4) (.tmp 26) rfl w.heap.size pmp0.toArray rfl rfl 142 pmp0.toArray HR4.out (by kernel_rfl) (by kernel_rfl) (by kernel_rfl) ?_
  rw [setRow_self w4 w.heap.size _ _ _ HR4.out]
  go_wp2
  refine bodyPost_ret (v := .tuple #[.agg pmp0.toArray, .bool false]) (ret_cell2 (g := w.heap.size) (v := .agg pmp0.toArray) rfl rfl rfl (pmp_load HR4.out)) rfl ?_
  exact ⟨⟨⟨false, false, false, 0, none, 0, 0, 0, 0⟩, rfl⟩, HB4.out⟩

set_option maxHeartbeats 4000000 in
set_option maxRecDepth 100000 in
theorem rStart_len (i0 : Int) (A : Option Addr) (n c : Nat) (o : List Int) (w : World) (hl : o.length = n) (hn : n ≤ 1048576) (hc : A = none → n = 0 ∧ c = 0) (hA : Rd w A (ints o)) (hb : 8 < n) : Calls Tryz.prog 88 #[.int .i64 i0, .slice A n c] w fun e w' => (∃ p : Pmp, e = .returned (.tuple #[pmpV p, .bool (startQ i0 o)])) ∧ Below w.heap.size w w' := by
  have HV : startQ i0 o = false := startQ_len (by omega)
  rw [HV]
  have HR0 : RowKit.Hid (Blk (w.alloc (.cells #[.bool false, .bool false, .bool false, .int .i64 0, .slice none 0 0, .int .i64 0, .int .i64 0] 142)) w.heap.size 142 pmp0) := Lib.hid (blk_new (cs := pmp0) rfl)
  have HB0 := Lib.hid ((Below.refl w.heap.size w).alloc (Nat.le_refl _) (.cells #[.bool false, .bool false, .bool false, .int .i64 0, .slice none 0 0, .int .i64 0, .int .i64 0] 142))
  have HA := Lib.hid (hA.below HB0.out)
  have HL := Lib.hid hl
  have HNIL := Lib.hid hc
  have q1 : (8 : Int) < (n : Int) := by omega
  have q0 : ¬ (n : Int) < 1 := by omega
  clear HV hl hc hA
  go_enter Tryz.func88, Tryz.ntmps88
  go_upto_region 1 with (fail)
  generalize w.alloc (.cells #[.bool false, .bool false, .bool false, .int .i64 0, .slice none 0 0, .int .i64 0, .int .i64 0] 142) = W0 at *
  have HO1 : RowKit.Hid ((W0.alloc (.cells #[.int .i64 i0] 3)).ownsRow W0.heap.size 3 1 (.slice (some ⟨W0.heap.size, 0, none⟩) 1 1) 1 (ints [i0])) := Lib.hid (own_blk1 (blk_new (cs := ints [i0]) rfl) (Nat.le_refl _) rfl (by unfold maxLen; omega))
  have HB1 := Lib.hid ((Below.refl W0.heap.size W0).alloc (Nat.le_refl _) (.cells #[.int .i64 i0] 3))
  have HA1 := Lib.hid (HA.out.below HB1.out)
  go_upto_region 2 with (at_builtin; refine wpList_app rfl (.tmp 15) (.tmp 16) 53 3 rfl W0.heap.size (.int .i64 0) 1 8 Tryz.underlying53 int_info rfl (by decide) (some ⟨W0.heap.size, 0, none⟩) 1 1 (ints [i0]) rfl HO1.out A n c (ints o) rfl HNIL.out (by rw [ints_length, HL.out]; exact (Nat.mul_one _).symm) HA1.out (ints_one _) (n + 1) (Nat.add_comm 1 _) (ints (i0 :: o)) rfl (by unfold maxLen; omega) (by omega) (by rw [World.size_alloc]; omega) ?_; intro A4 c4 w4 hown4 hg4 hb4; have HO4 := Lib.hid hown4; have HR4 := Lib.hid (HR0.out.below (HB1.out.trans hb4) HR0.out.lt); have HB4 := Lib.hid (HB0.out.trans ((HB1.out.trans hb4).mono HB0.out.size)); clear hown4 hg4 hb4)
  go_upto_region 3 with (fail)
  refine wp_region_lit ?_
  refine wpList_buildTo rfl 142 #[] rfl (some 26) rfl pmp0.toArray (by kernel_rfl) ?_
  refine wpList_store_row rfl 142 (.tmp 4) (.tmp 26) rfl w.heap.size pmp0.toArray rfl rfl 142 pmp0.toArray HR4.out (by kernel_rfl) (by kernel_rfl) (by kernel_rfl) ?_
  rw [setRow_self w4 w.heap.size _ _ _ HR4.out]
  go_wp2
  refine bodyPost_ret (v := .tuple #[.agg pmp0.toArray, .bool false]) (ret_cell2 (g := w.heap.size) (v := .agg pmp0.toArray) rfl rfl rfl (pmp_load HR4.out)) rfl ?_
  exact ⟨⟨⟨false, false, false, 0, none, 0, 0, 0, 0⟩, rfl⟩, HB4.out⟩

set_option maxHeartbeats 8000000 in
set_option maxRecDepth 100000 in
theorem rStart_main (i0 : Int) (A : Option Addr) (n c : Nat) (o : List Int) (w : World) (hl : o.length = n) (hn : n ≤ 1048576) (hc : A = none → n = 0 ∧ c = 0) (hA : Rd w A (ints o)) (hb : 1 ≤ n ∧ n ≤ 8) : Calls Tryz.prog 88 #[.int .i64 i0, .slice A n c] w fun e w' => (∃ p : Pmp, e = .returned (.tuple #[pmpV p, .bool (startQ i0 o)])) ∧ Below w.heap.size w w' := by
  have HVF := Lib.hid (fun k => allK_no (i := i0) (o := o) (k := k))
  have HVT := Lib.hid (fun h => allK_end (i := i0) (o := o) h (by rw [hl]; exact hb))
  have HST := Lib.hid (fun k => allK_step (L := i0 :: o) (k := k))
  have HS0 := Lib.hid (allK_zero (i0 :: o))
  have HR0 : RowKit.Hid (Blk (w.alloc (.cells #[.bool false, .bool false, .bool false, .int .i64 0, .slice none 0 0, .int .i64 0, .int .i64 0] 142)) w.heap.size 142 pmp0) := Lib.hid (blk_new (cs := pmp0) rfl)
  have HB0 := Lib.hid ((Below.refl w.heap.size w).alloc (Nat.le_refl _) (.cells #[.bool false, .bool false, .bool false, .int .i64 0, .slice none 0 0, .int .i64 0, .int .i64 0] 142))
  have HA := Lib.hid (hA.below HB0.out)
  have hA0 := Lib.hid hA
  have HL := Lib.hid hl
  have HLL : RowKit.Hid ((i0 :: o).length = n + 1) := Lib.hid (by rw [List.length_cons, hl])
  have HNIL := Lib.hid hc
  have q0 : ¬ (n : Int) < 1 := by omega
  have q1 : ¬ (8 : Int) < (n : Int) := by omega
  clear hl hc hA
  generalize startQ i0 o = sq at *
  go_enter Tryz.func88, Tryz.ntmps88
  go_upto_region 1 with (fail)
  generalize w.alloc (.cells #[.bool false, .bool false, .bool false, .int .i64 0, .slice none 0 0, .int .i64 0, .int .i64 0] 142) = W0 at *
  have HO1 : RowKit.Hid ((W0.alloc (.cells #[.int .i64 i0] 3)).ownsRow W0.heap.size 3 1 (.slice (some ⟨W0.heap.size, 0, none⟩) 1 1) 1 (ints [i0])) := Lib.hid (own_blk1 (blk_new (cs := ints [i0]) rfl) (Nat.le_refl _) rfl (by unfold maxLen; omega))
  have HB1 := Lib.hid ((Below.refl W0.heap.size W0).alloc (Nat.le_refl _) (.cells #[.int .i64 i0] 3))
  have HA1 := Lib.hid (HA.out.below HB1.out)
  go_upto_region 2 with (at_builtin; refine wpList_app rfl (.tmp 15) (.tmp 16) 53 3 rfl W0.heap.size (.int .i64 0) 1 8 Tryz.underlying53 int_info rfl (by decide) (some ⟨W0.heap.size, 0, none⟩) 1 1 (ints [i0]) rfl HO1.out A n c (ints o) rfl HNIL.out (by rw [ints_length, HL.out]; exact (Nat.mul_one _).symm) HA1.out (ints_one _) (n + 1) (Nat.add_comm 1 _) (ints (i0 :: o)) rfl (by unfold maxLen; omega) (by omega) (by rw [World.size_alloc]; omega) ?_; intro A4 c4 w4 hown4 hg4 hb4; have HO4 := Lib.hid hown4; have HR4 := Lib.hid (HR0.out.below (HB1.out.trans hb4) HR0.out.lt); have HB4 := Lib.hid (HB0.out.trans ((HB1.out.trans hb4).mono HB0.out.size)); clear hown4 hg4 hb4)
  have HCP := Lib.hid (own_capE HO4.out)
  have hA4 := own_rd HO4.out
  obtain ⟨b4, o4, rfl, hbl, hcl⟩ := hA4.at_ (by rw [ints_length, HLL.out]; omega)
  have HCL : RowKit.Hid (∀ v, Below w4.heap.size w4 v → ∀ j, j < (i0 :: o).length → v.cell? ⟨b4, o4 + j, none⟩ = some (.int .i64 ((i0 :: o).getD j 0))) := Lib.hid (fun v hb j hj => (hb.cell (p := ⟨b4, o4 + j, none⟩) hbl).trans (hcl j _ (ints_at hj)))
  have hc4 : n + 1 ≤ c4 := HCP.out
  clear hcl hA4 HO4 HO1 HA1 HR0 HCP hbl
  generalize hLe : (i0 :: o) = L at *
  have HLe := Lib.hid hLe
  clear hLe
  go_wp2_with fail
  go_loopg [29] (n + 1) (fun gg i wr => ∃ k : Nat, k ≤ n + 1 ∧ gg = n + 1 - k ∧ i = .int .i64 k ∧ allK L k = true ∧ Blk wr w.heap.size 142 pmp0 ∧ Below w.heap.size w wr ∧ Below w4.heap.size w4 wr)
  case atStart => exact ⟨0, Nat.zero_le _, rfl, rfl, HS0.out, HR4.out, HB4.out, Below.refl _ _⟩
  case round =>
    obtain ⟨k, hk, hg, rfl, hsk, hr, hb2, hw2⟩ := hrel
    have HG := Lib.hid hg
    have HK := Lib.hid hsk
    have HR := Lib.hid hr
    have HB := Lib.hid hb2
    have HW := Lib.hid hw2
    clear hg hsk hr hb2 hw2 HR4 HB4
    by_cases hlt : k < n + 1
    · have q2 : (k : Int) < ((n + 1 : Nat) : Int) := by omega
      have q2b : (k : Int) < (n : Int) + 1 := by omega
      have q3 : (0 : Int) ≤ (k : Int) := by omega
      have q5 : (k : Int) ≤ (c4 : Int) := by omega
      have q6 : k ≤ c4 := by omega
      have hkl : k < L.length := by rw [HLL.out]; exact hlt
      have x0 := HCL.out _ HW.out k hkl
      have HS := Lib.hid (HST.out k hkl)
      have HVF1 := Lib.hid (HVF.out (k + 1))
      clear hkl HVF HST
      generalize L.getD k 0 = h at *
      cases hqh : handQ h with
      | false =>
        have HV : RowKit.Hid (sq = false) := Lib.hid (HVF1.out (by rw [HS.out, hqh]; simp))
        have HH : RowKit.Hid (∀ w, Calls Tryz.prog 130 #[.int .i64 h] w fun e w' => (∃ a b : Value, e = .returned (.tuple #[a, b, .bool false])) ∧ Below w.heap.size w w') := Lib.hid (fun w => (rPlace_17 h w).mono fun e w' h => by rw [hqh] at h; exact h)
        clear hqh HS HVF1
        go_upto_region 9 with (go_at_call 130; refine (HH.out _).mono ?_; rintro er w1 ⟨⟨pa, pb, rfl⟩, hb1⟩; have HR1 := Lib.hid (HR.out.below hb1 HR.out.lt); have HB1 := Lib.hid (HB.out.trans (hb1.mono HB.out.size)); have HW1 := Lib.hid (HW.out.trans (hb1.mono HW.out.size)); clear hb1)
        go_upto_region 9 with (fail)
        refine wp_region_lit ?_
        refine wpList_buildTo rfl 142 #[] rfl (some 42) rfl pmp0.toArray (by kernel_rfl) ?_
        refine wpList_store_row rfl 142 (.tmp 4) (.tmp 42) rfl w.heap.size pmp0.toArray rfl rfl 142 pmp0.toArray HR1.out (by kernel_rfl) (by kernel_rfl) (by kernel_rfl) ?_
        rw [setRow_self w1 w.heap.size _ _ _ HR1.out]
        go_wp2
        refine bodyPost_ret (v := .tuple #[.agg pmp0.toArray, .bool false]) (ret_cell2 (g := w.heap.size) (v := .agg pmp0.toArray) rfl rfl rfl (pmp_load HR1.out)) rfl ?_
        exact ⟨⟨⟨false, false, false, 0, none, 0, 0, 0, 0⟩, by rw [HV.out]⟩, HB1.out⟩
      | true =>
        have HH : RowKit.Hid (∀ w, Calls Tryz.prog 130 #[.int .i64 h] w fun e w' => (∃ a b : Value, e = .returned (.tuple #[a, b, .bool true])) ∧ Below w.heap.size w w') := Lib.hid (fun w => (rPlace_17 h w).mono fun e w' h => by rw [hqh] at h; exact h)
        have HQ : RowKit.Hid (handQ h = true) := Lib.hid hqh
        clear hqh
        go_wp2_with (go_at_call 130; refine (HH.out _).mono ?_; rintro er w1 ⟨⟨pa, pb, rfl⟩, hb1⟩; have HR1 := Lib.hid (HR.out.below hb1 HR.out.lt); have HB1 := Lib.hid (HB.out.trans (hb1.mono HB.out.size)); have HW1 := Lib.hid (HW.out.trans (hb1.mono HW.out.size)); clear hb1)
        clear x0
        obtain ⟨wo, hwo⟩ : ∃ wo : World, wo = w1 := ⟨_, rfl⟩
        rw [← hwo] at HR1 HB1 HW1 ⊢
        clear hwo
        go_loopg [47] k (fun gg i wr => ∃ j : Nat, j ≤ k ∧ gg = k - j ∧ i = .int .i64 j ∧ (L.take j).contains h = false ∧ Blk wr w.heap.size 142 pmp0 ∧ Below w.heap.size w wr ∧ Below w4.heap.size w4 wr)
        case atStart => exact ⟨0, Nat.zero_le _, rfl, rfl, rfl, HR1.out, HB1.out, HW1.out⟩
        case round =>
          obtain ⟨j, hj, hg, rfl, hsj, hr, hb2, hw2⟩ := hrel
          have HGJ := Lib.hid hg
          have HJ := Lib.hid hsj
          have HR2 := Lib.hid hr
          have HB2 := Lib.hid hb2
          have HW2 := Lib.hid hw2
          clear hg hsj hr hb2 hw2 HR1 HB1 HW1
          by_cases hjk : j < k
          · have r2 : (j : Int) < (k : Int) := by omega
            have r3 : (0 : Int) ≤ (j : Int) := by omega
            have hjl : j < L.length := by rw [HLL.out]; omega
            have x1 := HCL.out _ HW2.out j hjl
            have HSJ := Lib.hid (has_step (x := h) hjl)
            have HMJ := Lib.hid (fun e => has_more (L := L) (x := h) (j := j + 1) (k := k) e hjk)
            clear hjl
            generalize L.getD j 0 = y at *
            by_cases he : y = h
            · have r4 : (y == h) = true := beq_iff_eq.2 he
              have HV : RowKit.Hid (sq = false) := Lib.hid (HVF1.out (by rw [HS.out, HMJ.out (by rw [HSJ.out, decide_eq_true he]; simp)]; simp))
              clear HS HVF1 he
              go_upto_region 14 with (fail)
              refine wp_region_lit ?_
              refine wpList_buildTo rfl 142 #[] rfl (some 54) rfl pmp0.toArray (by kernel_rfl) ?_
              refine wpList_store_row rfl 142 (.tmp 4) (.tmp 54) rfl w.heap.size pmp0.toArray rfl rfl 142 pmp0.toArray HR2.out (by kernel_rfl) (by kernel_rfl) (by kernel_rfl) ?_
              rw [setRow_self wr w.heap.size _ _ _ HR2.out]
              go_wp2
              refine bodyPost_ret (v := .tuple #[.agg pmp0.toArray, .bool false]) (ret_cell2 (g := w.heap.size) (v := .agg pmp0.toArray) rfl rfl rfl (pmp_load HR2.out)) rfl ?_
              exact ⟨⟨⟨false, false, false, 0, none, 0, 0, 0, 0⟩, by rw [HV.out]⟩, HB2.out⟩
            · have r4 : (y == h) = false := beq_eq_false_iff_ne.2 he
              have HJN : RowKit.Hid ((L.take (j + 1)).contains h = false) := Lib.hid (by rw [HSJ.out, HJ.out, decide_eq_false he]; rfl)
              clear he HSJ HMJ
              go_wp2_with fail
              go_roundg (k - (j + 1))
              case measure => rw [HGJ.out]; omega
              case rel => exact ⟨j + 1, by omega, rfl, by go_num, HJN.out, HR2.out, HB2.out, HW2.out⟩
          · obtain rfl : j = k := by omega
            have r2 : ¬ (j : Int) < (j : Int) := by omega
            have HKN : RowKit.Hid (allK L (j + 1) = true) := Lib.hid (by rw [HS.out, HK.out, HQ.out, HJ.out]; rfl)
            clear HS HVF1 HJ
            go_wp2_with fail
            go_roundg (n + 1 - (j + 1))
            case measure => rw [HG.out]; omega
            case rel => exact ⟨j + 1, by omega, rfl, by go_num, HKN.out, HR2.out, HB2.out, HW2.out⟩
    · obtain rfl : k = n + 1 := by omega
      have q2 : ¬ ((n + 1 : Nat) : Int) < ((n + 1 : Nat) : Int) := by omega
      have q2b : ¬ (n : Int) + 1 < (n : Int) + 1 := by omega
      have HV : RowKit.Hid (sq = true) := Lib.hid (HVT.out (by rw [HL.out]; exact HK.out))
      have HO6 : RowKit.Hid ((wr.alloc (.cells #[] 3)).ownsRow wr.heap.size 3 1 (.slice (some ⟨wr.heap.size, 0, none⟩) 0 0) 0 []) := Lib.hid (own_blank (blk_new (cs := []) rfl) (Nat.le_refl _))
      have HB6 := Lib.hid ((Below.refl wr.heap.size wr).alloc (Nat.le_refl _) (.cells #[] 3))
      have HA6 := Lib.hid ((hA0.out.below HB.out).below HB6.out)
      go_wp2_with (at_builtin; refine wpList_app rfl (.tmp 58) (.tmp 59) 53 3 rfl wr.heap.size (.int .i64 0) 1 8 Tryz.underlying53 int_info rfl (by decide) (some ⟨wr.heap.size, 0, none⟩) 0 0 [] rfl HO6.out A n c (ints o) rfl HNIL.out (by rw [ints_length, HL.out]; exact (Nat.mul_one _).symm) HA6.out (ints_one _) n (Nat.zero_add _) (ints o) rfl (by unfold maxLen; omega) (by omega) (by rw [World.size_alloc]; omega) ?_; intro V vc w5 hown5 hg5 hb5; have HR5 := Lib.hid (HR.out.below (HB6.out.trans hb5) HR.out.lt); have HB5 := Lib.hid (HB.out.trans ((HB6.out.trans hb5).mono HB.out.size)); have hgl := HR5.out.lt; clear hown5 hg5 hb5; have x0 := HR5.out.cell (i := 0) rfl; have f0 := HR5.out.frozen 0; have x1 := HR5.out.cell (i := 1) rfl; have f1 := HR5.out.frozen 1; have x2 := HR5.out.cell (i := 2) rfl; have f2 := HR5.out.frozen 2; have x3 := HR5.out.cell (i := 3) rfl; have f3 := HR5.out.frozen 3; have x4 := HR5.out.cell (i := 4) rfl; have f4 := HR5.out.frozen 4; have x5 := HR5.out.cell (i := 5) rfl; have f5 := HR5.out.frozen 5; have x6 := HR5.out.cell (i := 6) rfl; have f6 := HR5.out.frozen 6)
      have HRS := Lib.hid (((((((HR5.out.set_ 0 (.bool true)).set_ 1 (.bool false)).set_ 2 (.bool false)).set_ 3 (.int .i64 i0)).set_ 4 (.slice V n vc)).set_ 5 (.int .i64 0)).set_ 6 (.int .i64 0))
      have HBS := Lib.hid (((((((HB5.out.setCell (p := ⟨w.heap.size, 0, none⟩) (Nat.le_refl _) (.bool true)).setCell (p := ⟨w.heap.size, 1, none⟩) (Nat.le_refl _) (.bool false)).setCell (p := ⟨w.heap.size, 2, none⟩) (Nat.le_refl _) (.bool false)).setCell (p := ⟨w.heap.size, 3, none⟩) (Nat.le_refl _) (.int .i64 i0)).setCell (p := ⟨w.heap.size, 4, none⟩) (Nat.le_refl _) (.slice V n vc)).setCell (p := ⟨w.heap.size, 5, none⟩) (Nat.le_refl _) (.int .i64 0)).setCell (p := ⟨w.heap.size, 6, none⟩) (Nat.le_refl _) (.int .i64 0))
      refine bodyPost_ret (v := .tuple #[.agg #[.bool true, .bool false, .bool false, .int .i64 i0, .slice V n vc, .int .i64 0, .int .i64 0], .bool true]) (ret_cell2 (g := w.heap.size) (v := .agg #[.bool true, .bool false, .bool false, .int .i64 i0, .slice V n vc, .int .i64 0, .int .i64 0]) rfl rfl rfl (pmp_load HRS.out)) rfl ?_
      exact ⟨⟨⟨true, false, false, i0, V, n, vc, 0, 0⟩, by rw [HV.out]⟩, HBS.out⟩

theorem rStart_any (i0 : Int) (A : Option Addr) (n c : Nat) (o : List Int) (w : World) (hl : o.length = n) (hn : n ≤ 1048576) (hc : A = none → n = 0 ∧ c = 0) (hA : Rd w A (ints o)) : Calls Tryz.prog 88 #[.int .i64 i0, .slice A n c] w fun e w' => (∃ p : Pmp, e = .returned (.tuple #[pmpV p, .bool (startQ i0 o)])) ∧ Below w.heap.size w w' := by
  by_cases h0 : n = 0
  · exact rStart_zero i0 A n c o w hl hn hc hA (by omega)
  · by_cases hb : 1 ≤ n ∧ n ≤ 8
    · exact rStart_main i0 A n c o w hl hn hc hA hb
    · exact rStart_len i0 A n c o w hl hn hc hA (by omega)

end Go.Proofs.YtalkllfgedacoaaGreatDoor
