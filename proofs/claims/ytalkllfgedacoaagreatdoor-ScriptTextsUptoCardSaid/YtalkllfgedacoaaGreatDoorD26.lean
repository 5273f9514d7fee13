/- May a pump be? Both ways, walked. -/
import Derived.Test.YtalkllfgedacoaaGreatDoorD4
import Derived.Test.YtalkllfgedacoaaGreatDoorShelf
import Derived.Test.YtalkllfgedacoaaGreatDoorD11
import Derived.Great.BuildSlice
import Derived.Deep.RegionHeld3
namespace Go.Proofs.YtalkllfgedacoaaGreatDoor
open Go.RowKit Go.Sort

theorem handQ_ways (h : Int) : (handQ h = true ∧ ¬ h < 8 ∧ ¬ 32767 < h ∧ ¬ 32768 ≤ h) ∨ (handQ h = false ∧ h < 8) ∨ (handQ h = false ∧ ¬ h < 8 ∧ 32767 < h ∧ 32768 ≤ h) := by
  unfold handQ
  by_cases h1 : h < 8
  · right; left
    exact ⟨decide_eq_false (by omega), h1⟩
  · by_cases h2 : 32767 < h
    · right; right
      exact ⟨decide_eq_false (by omega), h1, h2, by omega⟩
    · left
      exact ⟨decide_eq_true (by omega), h1, h2, by omega⟩

set_option maxHeartbeats 1000000 in
set_option maxRecDepth 100000 in
theorem Place_17 (h : Int) (w : World) : Calls Tryz.prog 159 #[.int .i64 h] w fun e w' => (∃ a b : Value, e = .returned (.tuple #[a, b, .bool (handQ h)])) ∧ Below w.heap.size w w' := by
  rcases handQ_ways h with ⟨hq, h1, h2, h3⟩ | ⟨hq, h1⟩ | ⟨hq, h1, h2, h3⟩
  · rw [hq]
    have b1 : -9223372036854775808 ≤ h := by omega
    have b2 : h ≤ 9223372036854775807 := by omega
    have c1 : ¬ (8 : Int) = 0 := by decide
    have HQ := Lib.hid hq
    clear hq
    go_enter Tryz.func159, Tryz.ntmps159
    go_wp2
    go_ret3
    exact ⟨⟨_, _, rfl⟩, Below.refl _ _⟩
  · rw [hq]
    have HQ := Lib.hid hq
    clear hq
    go_enter Tryz.func159, Tryz.ntmps159
    go_wp2
    go_ret3
    exact ⟨⟨_, _, rfl⟩, Below.refl _ _⟩
  · rw [hq]
    have HQ := Lib.hid hq
    clear hq
    go_enter Tryz.func159, Tryz.ntmps159
    go_wp2
    go_ret3
    exact ⟨⟨_, _, rfl⟩, Below.refl _ _⟩

set_option maxHeartbeats 1000000 in
set_option maxRecDepth 100000 in
theorem rPlace_17 (h : Int) (w : World) : Calls Tryz.prog 130 #[.int .i64 h] w fun e w' => (∃ a b : Value, e = .returned (.tuple #[a, b, .bool (handQ h)])) ∧ Below w.heap.size w w' := by
  rcases handQ_ways h with ⟨hq, h1, h2, h3⟩ | ⟨hq, h1⟩ | ⟨hq, h1, h2, h3⟩
  · rw [hq]
    have b1 : -9223372036854775808 ≤ h := by omega
    have b2 : h ≤ 9223372036854775807 := by omega
    have c1 : ¬ (8 : Int) = 0 := by decide
    have HQ := Lib.hid hq
    clear hq
    go_enter Tryz.func130, Tryz.ntmps130
    go_wp2
    go_ret3
    exact ⟨⟨_, _, rfl⟩, Below.refl _ _⟩
  · rw [hq]
    have HQ := Lib.hid hq
    clear hq
    go_enter Tryz.func130, Tryz.ntmps130
    go_wp2
    go_ret3
    exact ⟨⟨_, _, rfl⟩, Below.refl _ _⟩
  · rw [hq]
    have HQ := Lib.hid hq
    clear hq
    go_enter Tryz.func130, Tryz.ntmps130
    go_wp2
    go_ret3
    exact ⟨⟨_, _, rfl⟩, Below.refl _ _⟩

set_option maxHeartbeats 1000000 in
theorem handle_any (h : Int) (w : World) : Calls Tryz.prog 127 #[.int .i64 h] w fun e w' => e = .returned (.bool (handQ h)) ∧ Below w.heap.size w w' := by
  have HP := Lib.hid (fun w => Place_17 h w)
  generalize handQ h = q at *
  go_enter Tryz.func127, Tryz.ntmps127
  go_wp2_with (go_at_call 159; refine (HP.out w).mono ?_; rintro er w1 ⟨⟨a, b, rfl⟩, hb1⟩)
  go_ret
  exact ⟨rfl, hb1⟩

/-! Outlets, up to a place. -/
def startK (i : Int) (o : List Int) (k : Nat) : Bool := (o.take k).all handQ && decide ((i :: o.take k).Nodup)
theorem startK_zero (i : Int) (o : List Int) : startK i o 0 = true := by unfold startK; simp
theorem startK_step {i : Int} {o : List Int} {k : Nat} (hk : k < o.length) : startK i o (k + 1) = (startK i o k && (handQ (o.getD k 0) && (!decide (o.getD k 0 = i) && !(o.take k).contains (o.getD k 0)))) := by
  unfold startK
  rw [List.take_succ_eq_append_getElem hk]
  have e : o.getD k 0 = o[k] := by rw [List.getD, List.getElem?_eq_getElem hk]; rfl
  rw [e]
  generalize o[k] = x
  generalize o.take k = l
  rw [Bool.eq_iff_iff]
  simp only [List.all_append, List.all_cons, List.all_nil, Bool.and_true, Bool.and_eq_true, decide_eq_true_eq, ← List.cons_append, List.nodup_append, List.mem_cons, List.nodup_cons, List.not_mem_nil, not_false_eq_true, true_and, List.nodup_nil, and_true, Bool.not_eq_true', decide_eq_false_iff_not, List.contains_eq_mem, or_false]
  constructor
  · rintro ⟨⟨h1, h2⟩, h3, h4⟩
    refine ⟨⟨h1, h3⟩, h2, ?_, ?_⟩
    · intro hx; exact h4 i (.inl rfl) x rfl hx.symm
    · intro hx; exact h4 x (.inr hx) x rfl rfl
  · rintro ⟨⟨h1, h3⟩, h2, h4, h5⟩
    refine ⟨⟨h1, h2⟩, h3, ?_⟩
    rintro a (rfl | ha) b rfl hab
    · exact h4 hab.symm
    · subst hab; exact h5 ha
theorem startK_all {i : Int} {o : List Int} {k : Nat} (h : startK i o k = false) : startQ i o = false := by
  have hm : (o.all handQ && decide ((i :: o).Nodup)) = false := by
    rw [Bool.eq_false_iff]
    intro hc
    rw [Bool.and_eq_true, decide_eq_true_eq, List.all_eq_true] at hc
    rw [Bool.eq_false_iff] at h
    apply h
    unfold startK
    rw [Bool.and_eq_true, decide_eq_true_eq, List.all_eq_true]
    refine ⟨fun x hx => hc.1 x (List.mem_of_mem_take hx), ?_⟩
    exact hc.2.sublist (List.Sublist.cons_cons i (List.take_sublist k o))
  unfold startQ
  rw [Bool.and_assoc, hm, Bool.and_false]
theorem startK_end {i : Int} {o : List Int} (h : startK i o o.length = true) (h1 : handQ i = true) (h2 : 1 ≤ o.length ∧ o.length ≤ 8) : startQ i o = true := by
  unfold startK at h
  rw [List.take_length] at h
  unfold startQ
  rw [Bool.and_assoc, h, h1, decide_eq_true h2]
  rfl
theorem startQ_len {i : Int} {o : List Int} (h : ¬ (1 ≤ o.length ∧ o.length ≤ 8)) : startQ i o = false := by
  unfold startQ
  rw [decide_eq_false h]
  simp
theorem startQ_hand {i : Int} {o : List Int} (h : handQ i = false) : startQ i o = false := by
  unfold startQ
  rw [h]
  rfl

/-- A pump, as it lies. -/
structure Pmp where
  (on shut over : Bool)
  (inn : Int)
  (A : Option Addr)
  (n c : Nat)
  (at_ value : Int)
abbrev pmpV (p : Pmp) : Value := .agg #[.bool p.on, .bool p.shut, .bool p.over, .int .i64 p.inn, .slice p.A p.n p.c, .int .i64 p.at_, .int .i64 p.value]
abbrev pmp0 : List Value := [.bool false, .bool false, .bool false, .int .i64 0, .slice none 0 0, .int .i64 0, .int .i64 0]
theorem pmp_load {w : World} {g : Nat} {a b c : Bool} {x y z : Int} {v : Value} (h : Blk w g 142 [.bool a, .bool b, .bool c, .int .i64 x, v, .int .i64 y, .int .i64 z]) : (loadVar 142 ⟨g, 0, none⟩).run Tryz.prog w = .ok (.agg #[.bool a, .bool b, .bool c, .int .i64 x, v, .int .i64 y, .int .i64 z]) w :=
  run_loadVar_row (P := Tryz.prog) w g 142 142 _ (0, 0) _ h Tryz.underlying142 rfl (by kernel_rfl)

set_option maxHeartbeats 4000000 in
set_option maxRecDepth 100000 in
theorem Start_no (i : Int) (A : Option Addr) (n c : Nat) (o : List Int) (w : World) (hq : handQ i = false) : Calls Tryz.prog 85 #[.int .i64 i, .slice A n c] w fun e w' => (∃ p : Pmp, e = .returned (.tuple #[pmpV p, .bool (startQ i o)])) ∧ Below w.heap.size w w' := by
  have HV := startQ_hand (o := o) hq
  rw [HV]
  have HH : RowKit.Hid (∀ w, Calls Tryz.prog 127 #[.int .i64 i] w fun e w' => e = .returned (.bool false) ∧ Below w.heap.size w w') := Lib.hid (fun w => (handle_any i w).mono fun e w' h => by rw [hq] at h; exact h)
  have HR0 : RowKit.Hid (Blk (w.alloc (.cells #[.bool false, .bool false, .bool false, .int .i64 0, .slice none 0 0, .int .i64 0, .int .i64 0] 142)) w.heap.size 142 pmp0) := Lib.hid (blk_new (cs := pmp0) rfl)
  have HB0 := Lib.hid ((Below.refl w.heap.size w).alloc (Nat.le_refl _) (.cells #[.bool false, .bool false, .bool false, .int .i64 0, .slice none 0 0, .int .i64 0, .int .i64 0] 142))
  clear hq HV
  go_enter Tryz.func85, Tryz.ntmps85
  go_upto_region 1 with (fail)
  generalize w.alloc (.cells #[.bool false, .bool false, .bool false, .int .i64 0, .slice none 0 0, .int .i64 0, .int .i64 0] 142) = W0 at *
  go_upto_region 2 with (go_at_call 127; refine (HH.out _).mono ?_; rintro er w1 ⟨rfl, hb1⟩; have HR1 := Lib.hid (HR0.out.below hb1 HR0.out.lt); have HB1 := Lib.hid (HB0.out.trans (hb1.mono HB0.out.size)); clear hb1)
  go_upto_region 2 with (fail)
  refine wp_region_lit ?_
  refine wpList_buildTo rfl 142 #[] rfl (some 21) rfl pmp0.toArray (by kernel_rfl) ?_
  refine wpList_store_row rfl 142 (.tmp 4) (.tmp 21) rfl w.heap.size pmp0.toArray rfl rfl 142 pmp0.toArray HR1.out (by kernel_rfl) (by kernel_rfl) (by kernel_rfl) ?_
  rw [setRow_self w1 w.heap.size _ _ _ HR1.out]
  go_wp2
  refine bodyPost_ret (v := .tuple #[.agg pmp0.toArray, .bool false]) (ret_cell2 (g := w.heap.size) (v := .agg pmp0.toArray) rfl rfl rfl (pmp_load HR1.out)) rfl ?_
  exact ⟨⟨⟨false, false, false, 0, none, 0, 0, 0, 0⟩, rfl⟩, HB1.out⟩

set_option maxHeartbeats 4000000 in
set_option maxRecDepth 100000 in
theorem Start_len (i : Int) (A : Option Addr) (n c : Nat) (o : List Int) (w : World) (hl : o.length = n) (hn : n ≤ 1048576) (hq : handQ i = true) (hb : ¬ (1 ≤ n ∧ n ≤ 8)) : Calls Tryz.prog 85 #[.int .i64 i, .slice A n c] w fun e w' => (∃ p : Pmp, e = .returned (.tuple #[pmpV p, .bool (startQ i o)])) ∧ Below w.heap.size w w' := by
  have HV := startQ_len (i := i) (o := o) (by rw [hl]; exact hb)
  rw [HV]
  have HH : RowKit.Hid (∀ w, Calls Tryz.prog 127 #[.int .i64 i] w fun e w' => e = .returned (.bool true) ∧ Below w.heap.size w w') := Lib.hid (fun w => (handle_any i w).mono fun e w' h => by rw [hq] at h; exact h)
  have HR0 : RowKit.Hid (Blk (w.alloc (.cells #[.bool false, .bool false, .bool false, .int .i64 0, .slice none 0 0, .int .i64 0, .int .i64 0] 142)) w.heap.size 142 pmp0) := Lib.hid (blk_new (cs := pmp0) rfl)
  have HB0 := Lib.hid ((Below.refl w.heap.size w).alloc (Nat.le_refl _) (.cells #[.bool false, .bool false, .bool false, .int .i64 0, .slice none 0 0, .int .i64 0, .int .i64 0] 142))
  clear hq HV hl
  by_cases h0 : n = 0
  · subst h0
    go_enter Tryz.func85, Tryz.ntmps85
    go_upto_region 1 with (fail)
    generalize w.alloc (.cells #[.bool false, .bool false, .bool false, .int .i64 0, .slice none 0 0, .int .i64 0, .int .i64 0] 142) = W0 at *
    go_upto_region 2 with (go_at_call 127; refine (HH.out _).mono ?_; rintro er w1 ⟨rfl, hb1⟩; have HR1 := Lib.hid (HR0.out.below hb1 HR0.out.lt); have HB1 := Lib.hid (HB0.out.trans (hb1.mono HB0.out.size)); clear hb1)
    go_upto_region 2 with (fail)
    refine wp_region_lit ?_
    refine wpList_buildTo rfl 142 #[] rfl (some 21) rfl pmp0.toArray (by kernel_rfl) ?_
    refine wpList_store_row rfl 142 (.tmp 4) (.tmp 21) rfl w.heap.size pmp0.toArray rfl rfl 142 pmp0.toArray HR1.out (by kernel_rfl) (by kernel_rfl) (by kernel_rfl) ?_
    rw [setRow_self w1 w.heap.size _ _ _ HR1.out]
    go_wp2
    refine bodyPost_ret (v := .tuple #[.agg pmp0.toArray, .bool false]) (ret_cell2 (g := w.heap.size) (v := .agg pmp0.toArray) rfl rfl rfl (pmp_load HR1.out)) rfl ?_
    exact ⟨⟨⟨false, false, false, 0, none, 0, 0, 0, 0⟩, rfl⟩, HB1.out⟩
  · have q0 : ((n : Int) == 0) = false := beq_eq_false_iff_ne.2 (by omega)
    have q1 : (8 : Int) < (n : Int) := by omega
    clear hb
    go_enter Tryz.func85, Tryz.ntmps85
    go_upto_region 1 with (fail)
    generalize w.alloc (.cells #[.bool false, .bool false, .bool false, .int .i64 0, .slice none 0 0, .int .i64 0, .int .i64 0] 142) = W0 at *
    go_upto_region 2 with (go_at_call 127; refine (HH.out _).mono ?_; rintro er w1 ⟨rfl, hb1⟩; have HR1 := Lib.hid (HR0.out.below hb1 HR0.out.lt); have HB1 := Lib.hid (HB0.out.trans (hb1.mono HB0.out.size)); clear hb1)
    go_upto_region 2 with (fail)
    refine wp_region_lit ?_
    refine wpList_buildTo rfl 142 #[] rfl (some 21) rfl pmp0.toArray (by kernel_rfl) ?_
    refine wpList_store_row rfl 142 (.tmp 4) (.tmp 21) rfl w.heap.size pmp0.toArray rfl rfl 142 pmp0.toArray HR1.out (by kernel_rfl) (by kernel_rfl) (by kernel_rfl) ?_
    rw [setRow_self w1 w.heap.size _ _ _ HR1.out]
    go_wp2
    refine bodyPost_ret (v := .tuple #[.agg pmp0.toArray, .bool false]) (ret_cell2 (g := w.heap.size) (v := .agg pmp0.toArray) rfl rfl rfl (pmp_load HR1.out)) rfl ?_
    exact ⟨⟨⟨false, false, false, 0, none, 0, 0, 0, 0⟩, rfl⟩, HB1.out⟩

set_option maxHeartbeats 8000000 in
set_option maxRecDepth 100000 in
theorem Start_main (i0 : Int) (A : Option Addr) (n c : Nat) (o : List Int) (w : World) (hl : o.length = n) (hnc : n ≤ c) (hA : Rd w A (ints o)) (hq : handQ i0 = true) (hb : 1 ≤ n ∧ n ≤ 8) : Calls Tryz.prog 85 #[.int .i64 i0, .slice A n c] w fun e w' => (∃ p : Pmp, e = .returned (.tuple #[pmpV p, .bool (startQ i0 o)])) ∧ Below w.heap.size w w' := by
  have HVF := Lib.hid (fun k => startK_all (i := i0) (o := o) (k := k))
  have HVT := Lib.hid (fun h => startK_end (i := i0) (o := o) h hq (by rw [hl]; exact hb))
  have HST := Lib.hid (fun k => startK_step (i := i0) (o := o) (k := k))
  have HS0 := Lib.hid (startK_zero i0 o)
  have HL := Lib.hid hl
  have HH : RowKit.Hid (∀ w, Calls Tryz.prog 127 #[.int .i64 i0] w fun e w' => e = .returned (.bool true) ∧ Below w.heap.size w w') := Lib.hid (fun w => (handle_any i0 w).mono fun e w' h => by rw [hq] at h; exact h)
  have HR0 : RowKit.Hid (Blk (w.alloc (.cells #[.bool false, .bool false, .bool false, .int .i64 0, .slice none 0 0, .int .i64 0, .int .i64 0] 142)) w.heap.size 142 pmp0) := Lib.hid (blk_new (cs := pmp0) rfl)
  have HB0 := Lib.hid ((Below.refl w.heap.size w).alloc (Nat.le_refl _) (.cells #[.bool false, .bool false, .bool false, .int .i64 0, .slice none 0 0, .int .i64 0, .int .i64 0] 142))
  obtain ⟨bb, oo, rfl, hbl, hcl⟩ := hA.at_ (by rw [ints_length]; omega)
  have HCL : RowKit.Hid (∀ j, j < o.length → w.cell? ⟨bb, oo + j, none⟩ = some (.int .i64 (o.getD j 0))) := Lib.hid (fun j hj => hcl j _ (ints_at hj))
  clear hcl hq hl hA
  generalize startQ i0 o = sq at *
  have q0 : ((n : Int) == 0) = false := beq_eq_false_iff_ne.2 (by omega)
  have q1 : ¬ (8 : Int) < (n : Int) := by omega
  go_enter Tryz.func85, Tryz.ntmps85
  go_upto_region 1 with (fail)
  have HBW : RowKit.Hid (∀ v, Below w.heap.size w v → ∀ j, j < o.length → v.cell? ⟨bb, oo + j, none⟩ = some (.int .i64 (o.getD j 0))) := Lib.hid (fun v hb j hj => (hb.cell (p := ⟨bb, oo + j, none⟩) hbl).trans (HCL.out j hj))
  generalize w.alloc (.cells #[.bool false, .bool false, .bool false, .int .i64 0, .slice none 0 0, .int .i64 0, .int .i64 0] 142) = W0 at *
  go_upto_region 3 with (go_at_call 127; refine (HH.out _).mono ?_; rintro er w1 ⟨rfl, hb1⟩; have HR1 := Lib.hid (HR0.out.below hb1 HR0.out.lt); have HB1 := Lib.hid (HB0.out.trans (hb1.mono HB0.out.size)); clear hb1)
  clear HH HR0 HB0 HCL
  go_wp2_with fail
  go_loopg [24] n (fun gg i wr => ∃ k : Nat, k ≤ n ∧ gg = n - k ∧ i = .int .i64 k ∧ startK i0 o k = true ∧ Blk wr w.heap.size 142 pmp0 ∧ Below w.heap.size w wr)
  case atStart => exact ⟨0, Nat.zero_le _, rfl, rfl, HS0.out, HR1.out, HB1.out⟩
  case round =>
    obtain ⟨k, hk, hg, rfl, hsk, hr, hb2⟩ := hrel
    have HG := Lib.hid hg
    have HK := Lib.hid hsk
    have HR := Lib.hid hr
    have HB := Lib.hid hb2
    clear hg hsk hr hb2 HR1 HB1
    by_cases hlt : k < n
    · have q2 : (k : Int) < (n : Int) := by omega
      have q3 : (0 : Int) ≤ (k : Int) := by omega
      have q5 : (k : Int) ≤ (c : Int) := by omega
      have q6 : k ≤ c := by omega
      have hkl : k < o.length := by rw [HL.out]; exact hlt
      have x0 := HBW.out _ HB.out k hkl
      have HS := Lib.hid (HST.out k hkl)
      have HVF1 := Lib.hid (HVF.out (k + 1))
      have HC0 : RowKit.Hid (∀ v, Below w.heap.size w v → Calls Tryz.prog 128 #[.slice (some ⟨bb, oo, none⟩) k c, .int .i64 (o.getD k 0)] v fun e w' => e = .returned (.bool ((o.take k).contains (o.getD k 0))) ∧ w' = v) := Lib.hid (fun v hb => Tryz.slices_Contains_int bb oo k c o _ v (by omega) (by omega) (HBW.out v hb))
      clear hkl HVF HST
      generalize (o.take k).contains (o.getD k 0) = cq at *
      generalize o.getD k 0 = h at *
      cases hqh : handQ h with
      | false =>
        have HV : RowKit.Hid (sq = false) := Lib.hid (HVF1.out (by rw [HS.out, hqh]; simp))
        have HH : RowKit.Hid (∀ w, Calls Tryz.prog 127 #[.int .i64 h] w fun e w' => e = .returned (.bool false) ∧ Below w.heap.size w w') := Lib.hid (fun w => (handle_any h w).mono fun e w' h => by rw [hqh] at h; exact h)
        clear hqh HS HVF1 HC0
        go_upto_region 7 with (go_at_call 127; refine (HH.out _).mono ?_; rintro er w1 ⟨rfl, hb1⟩; have HR1 := Lib.hid (HR.out.below hb1 HR.out.lt); have HB1 := Lib.hid (HB.out.trans (hb1.mono HB.out.size)); clear hb1)
        go_upto_region 7 with (fail)
        refine wp_region_lit ?_
        refine wpList_buildTo rfl 142 #[] rfl (some 44) rfl pmp0.toArray (by kernel_rfl) ?_
        refine wpList_store_row rfl 142 (.tmp 4) (.tmp 44) rfl w.heap.size pmp0.toArray rfl rfl 142 pmp0.toArray HR1.out (by kernel_rfl) (by kernel_rfl) (by kernel_rfl) ?_
        rw [setRow_self w1 w.heap.size _ _ _ HR1.out]
        go_wp2
        refine bodyPost_ret (v := .tuple #[.agg pmp0.toArray, .bool false]) (ret_cell2 (g := w.heap.size) (v := .agg pmp0.toArray) rfl rfl rfl (pmp_load HR1.out)) rfl ?_
        exact ⟨⟨⟨false, false, false, 0, none, 0, 0, 0, 0⟩, by rw [HV.out]⟩, HB1.out⟩
      | true =>
        have HH : RowKit.Hid (∀ w, Calls Tryz.prog 127 #[.int .i64 h] w fun e w' => e = .returned (.bool true) ∧ Below w.heap.size w w') := Lib.hid (fun w => (handle_any h w).mono fun e w' h => by rw [hqh] at h; exact h)
        by_cases he : h = i0
        · have HV : RowKit.Hid (sq = false) := Lib.hid (HVF1.out (by rw [HS.out, decide_eq_true he]; simp))
          have q4 : (h == i0) = true := beq_iff_eq.2 he
          clear hqh HS HVF1 HC0 he
          go_upto_region 7 with (go_at_call 127; refine (HH.out _).mono ?_; rintro er w1 ⟨rfl, hb1⟩; have HR1 := Lib.hid (HR.out.below hb1 HR.out.lt); have HB1 := Lib.hid (HB.out.trans (hb1.mono HB.out.size)); clear hb1)
          go_upto_region 7 with (fail)
          refine wp_region_lit ?_
          refine wpList_buildTo rfl 142 #[] rfl (some 44) rfl pmp0.toArray (by kernel_rfl) ?_
          refine wpList_store_row rfl 142 (.tmp 4) (.tmp 44) rfl w.heap.size pmp0.toArray rfl rfl 142 pmp0.toArray HR1.out (by kernel_rfl) (by kernel_rfl) (by kernel_rfl) ?_
          rw [setRow_self w1 w.heap.size _ _ _ HR1.out]
          go_wp2
          refine bodyPost_ret (v := .tuple #[.agg pmp0.toArray, .bool false]) (ret_cell2 (g := w.heap.size) (v := .agg pmp0.toArray) rfl rfl rfl (pmp_load HR1.out)) rfl ?_
          exact ⟨⟨⟨false, false, false, 0, none, 0, 0, 0, 0⟩, by rw [HV.out]⟩, HB1.out⟩
        · have q4 : (h == i0) = false := beq_eq_false_iff_ne.2 he
          have HD := Lib.hid (decide_eq_false he)
          clear he
          cases cq with
          | true =>
            have HV : RowKit.Hid (sq = false) := Lib.hid (HVF1.out (by rw [HS.out]; simp))
            clear hqh HS HVF1 HD
            go_upto_region 7 with (first
              | (go_at_call 127; refine (HH.out _).mono ?_; rintro er w1 ⟨rfl, hb1⟩; have HR1 := Lib.hid (HR.out.below hb1 HR.out.lt); have HB1 := Lib.hid (HB.out.trans (hb1.mono HB.out.size)); clear hb1)
              | (go_at_call 128; refine (HC0.out _ HB1.out).mono ?_; rintro er w2 ⟨rfl, rfl⟩))
            go_upto_region 7 with (fail)
            refine wp_region_lit ?_
            refine wpList_buildTo rfl 142 #[] rfl (some 44) rfl pmp0.toArray (by kernel_rfl) ?_
            refine wpList_store_row rfl 142 (.tmp 4) (.tmp 44) rfl w.heap.size pmp0.toArray rfl rfl 142 pmp0.toArray HR1.out (by kernel_rfl) (by kernel_rfl) (by kernel_rfl) ?_
            rw [setRow_self w2 w.heap.size _ _ _ HR1.out]
            go_wp2
            refine bodyPost_ret (v := .tuple #[.agg pmp0.toArray, .bool false]) (ret_cell2 (g := w.heap.size) (v := .agg pmp0.toArray) rfl rfl rfl (pmp_load HR1.out)) rfl ?_
            exact ⟨⟨⟨false, false, false, 0, none, 0, 0, 0, 0⟩, by rw [HV.out]⟩, HB1.out⟩
          | false =>
            have HKN : RowKit.Hid (startK i0 o (k + 1) = true) := Lib.hid (by rw [HS.out, HK.out, hqh, HD.out]; rfl)
            clear hqh HS HVF1 HD
            go_wp2_with (first
              | (go_at_call 127; refine (HH.out _).mono ?_; rintro er w1 ⟨rfl, hb1⟩; have HR1 := Lib.hid (HR.out.below hb1 HR.out.lt); have HB1 := Lib.hid (HB.out.trans (hb1.mono HB.out.size)); clear hb1)
              | (go_at_call 128; refine (HC0.out _ HB1.out).mono ?_; rintro er w2 ⟨rfl, rfl⟩))
            go_roundg (n - (k + 1))
            case measure => rw [HG.out]; omega
            case rel => exact ⟨k + 1, by omega, rfl, by go_num, HKN.out, HR1.out, HB1.out⟩
    · obtain rfl : k = n := by omega
      have q2 : ¬ (k : Int) < (k : Int) := by omega
      have HV : RowKit.Hid (sq = true) := Lib.hid (HVT.out (by rw [HL.out]; exact HK.out))
      have HCC := Lib.hid (Tryz.slices_Clone_int bb oo k c o wr (by rw [HL.out]; exact Nat.le_refl _) (by omega) (HBW.out _ HB.out))
      go_wp2_with fail
      refine HCC.out.mono ?_
      rintro er w1 ⟨v, rfl, hown, _, hb1⟩
      obtain ⟨V, vn, vc, rfl⟩ : ∃ V vn vc, v = .slice V vn vc := by rcases hown.2 with ⟨hv, _⟩ | ⟨g, cap, cur, hv, _⟩ <;> exact ⟨_, _, _, hv⟩
      clear hown
      have HR1 := Lib.hid (HR.out.below hb1 HR.out.lt); have HB1 := Lib.hid (HB.out.trans (hb1.mono HB.out.size)); clear hb1
      have hgl := HR1.out.lt
      have x0 := HR1.out.cell (i := 0) rfl
      have f0 := HR1.out.frozen 0
      have x1 := HR1.out.cell (i := 1) rfl
      have f1 := HR1.out.frozen 1
      have x2 := HR1.out.cell (i := 2) rfl
      have f2 := HR1.out.frozen 2
      have x3 := HR1.out.cell (i := 3) rfl
      have f3 := HR1.out.frozen 3
      have x4 := HR1.out.cell (i := 4) rfl
      have f4 := HR1.out.frozen 4
      have x5 := HR1.out.cell (i := 5) rfl
      have f5 := HR1.out.frozen 5
      have x6 := HR1.out.cell (i := 6) rfl
      have f6 := HR1.out.frozen 6
      have HRS := Lib.hid (((((((HR1.out.set_ 0 (.bool true)).set_ 1 (.bool false)).set_ 2 (.bool false)).set_ 3 (.int .i64 i0)).set_ 4 (.slice V vn vc)).set_ 5 (.int .i64 0)).set_ 6 (.int .i64 0))
      have HBS := Lib.hid (((((((HB1.out.setCell (p := ⟨w.heap.size, 0, none⟩) (Nat.le_refl _) (.bool true)).setCell (p := ⟨w.heap.size, 1, none⟩) (Nat.le_refl _) (.bool false)).setCell (p := ⟨w.heap.size, 2, none⟩) (Nat.le_refl _) (.bool false)).setCell (p := ⟨w.heap.size, 3, none⟩) (Nat.le_refl _) (.int .i64 i0)).setCell (p := ⟨w.heap.size, 4, none⟩) (Nat.le_refl _) (.slice V vn vc)).setCell (p := ⟨w.heap.size, 5, none⟩) (Nat.le_refl _) (.int .i64 0)).setCell (p := ⟨w.heap.size, 6, none⟩) (Nat.le_refl _) (.int .i64 0))
      go_wp2
      refine bodyPost_ret (v := .tuple #[.agg #[.bool true, .bool false, .bool false,   .int .i64 i0, .slice V vn vc, .int .i64 0, .int .i64 0], .bool true]) (ret_cell2 (g := w.heap.size) (v := .agg #[.bool true, .bool false, .bool false,   .int .i64 i0, .slice V vn vc, .int .i64 0, .int .i64 0]) rfl rfl rfl (pmp_load HRS.out)) rfl ?_
      exact ⟨⟨⟨true, false, false, i0, V, vn, vc, 0, 0⟩, by rw [HV.out]⟩, HBS.out⟩

theorem Start_any (i : Int) (A : Option Addr) (n c : Nat) (o : List Int) (w : World) (hl : o.length = n) (hn : n ≤ 1048576) (hc : n ≤ c) (hA : Rd w A (ints o)) : Calls Tryz.prog 85 #[.int .i64 i, .slice A n c] w fun e w' => (∃ p : Pmp, e = .returned (.tuple #[pmpV p, .bool (startQ i o)])) ∧ Below w.heap.size w w' := by
  cases hq : handQ i with
  | false => exact Start_no i A n c o w hq
  | true =>
    by_cases hb : 1 ≤ n ∧ n ≤ 8
    · exact Start_main i A n c o w hl hc hA hq hb
    · exact Start_len i A n c o w hl hn hq hb

end Go.Proofs.YtalkllfgedacoaaGreatDoor
