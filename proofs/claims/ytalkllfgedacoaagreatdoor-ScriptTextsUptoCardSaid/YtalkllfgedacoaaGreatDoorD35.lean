/- The law ScriptTexts, walked. -/
import Derived.Test.YtalkllfgedacoaaGreatDoorD29
import Derived.Test.YtalkllfgedacoaaGreatDoorD34
import Derived.Test.YtalkllfgedacoaaGreatDoorD31
namespace Go.Proofs.YtalkllfgedacoaaGreatDoor
open Go.RowKit Go.Sort

set_option maxHeartbeats 8000000 in
set_option maxRecDepth 100000 in
theorem lawTX_any (A : Option Addr) (n c : Nat) (l : List Ev) (q : Reqr) (cs : List Cse) (w : World) (hn : n ≤ 1048576) (hnc : n ≤ c) (hE : EvsIn w A n l) (hi : ∀ e ∈ l, EvIn e ∧ EvSm e) (he : ErrT w) (ht : TabT w) (hm : MLT w) (hq : EtT w)
    (hr : ReqAt w q cs) (hqn : q.n ≤ 1048570) (hc : CallIn q cs) :
    Calls Tryz.prog 6 #[.slice A n c, reqV q] w fun e w' => e = .returned (.bool true) ∧ Below w.heap.size w w' := by
  have HA := Lib.hid (fun W (h : Below w.heap.size w W) => awake24_any W (he.below h) (ht.below h) (hm.below h) (hq.below h))
  have HE := Lib.hid hE
  have HLN := Lib.hid hE.len
  have HI := Lib.hid hi
  have HTX := Lib.hid (fun W (h : Below w.heap.size w W) => Text24_any A n c l W hn hnc (hE.below h) hi (he.below h) (ht.below h) (hm.below h))
  have HRT := Lib.hid (fun W (h : Below w.heap.size w W) => RText24_any A n c l W hn (hE.below h) hi)
  have HSY := Lib.hid (fun W (h : Below w.heap.size w W) => Say24_any q cs W (hr.below h) hqn hc (he.below h) (ht.below h) (hm.below h))
  have HRY := Lib.hid (fun W (h : Below w.heap.size w W) => rSay24_any q cs W (hr.below h) hqn hc)
  obtain ⟨la, hla, hra, hea⟩ := hE.ex
  have HLA := Lib.hid hla
  have HRA := Lib.hid hra
  have HEA := Lib.hid hea
  have HU := Lib.hid Tryz.underlying74
  obtain ⟨qk, qa, qv, qd, QA, qn, qc⟩ := q
  unfold reqV at *
  simp only at HSY HRY
  clear he ht hm hq hE hi hr hqn hc hla hra hea
  have hb0 := (Below.refl w.heap.size w).alloc (Nat.le_refl _) (.cells #[.int .i64 qk, .int .i64 qa, .int .i64 qv, .bool qd, .slice QA qn qc] 24)
  have HB0 := Lib.hid hb0
  have HBQ : RowKit.Hid (Blk (w.alloc (.cells #[.int .i64 qk, .int .i64 qa, .int .i64 qv, .bool qd, .slice QA qn qc] 24)) w.heap.size 24 [.int .i64 qk, .int .i64 qa, .int .i64 qv, .bool qd, .slice QA qn qc]) := Lib.hid (Blk.new w _ _)
  clear hb0
  go_enter Tryz.func6, Tryz.ntmps6
  go_upto_region 1 with (fail)
  generalize w.alloc (.cells #[.int .i64 qk, .int .i64 qa, .int .i64 qv, .bool qd, .slice QA qn qc] 24) = WQ at *
  by_cases hlong : 20000 < n
  · have q1 : (20000 : Int) < (n : Int) := by omega
    go_wp2_with (go_at_call 25; refine (HA.out _ HB0.out).mono ?_; rintro er w5 ⟨rfl, hb5⟩; have HB5 := Lib.hid (HB0.out.trans (hb5.mono HB0.out.size)); clear hb5)
    go_ret
    exact ⟨by rfl, HB5.out⟩
  have q1 : ¬ (20000 : Int) < (n : Int) := by omega
  go_wp2_with fail
  clear q1 hlong
  go_loopg [5, 6, 7, 18] n (fun gg _ _ _ i wr => ∃ k : Nat, k ≤ n ∧ gg = n - k ∧ i = .int .i64 k ∧ Below w.heap.size w wr ∧ Below WQ.heap.size WQ wr)
  case atStart => exact ⟨0, Nat.zero_le _, rfl, rfl, HB0.out, Below.refl _ _⟩
  case round =>
    obtain ⟨k, hk, hg, rfl, hb, hbq⟩ := hrel
    have HG := Lib.hid hg
    have HBW := Lib.hid hb
    have HBWQ := Lib.hid hbq
    clear hg hb hbq
    by_cases hlt : k < n
    · have q2 : (k : Int) < (n : Int) := by omega
      have q3 : (0 : Int) ≤ (k : Int) := by omega
      have hjn : k - 1 < n := by omega
      obtain ⟨j, hj⟩ : ∃ j, j = k - 1 := ⟨_, rfl⟩
      rw [← hj] at hjn
      have hk1 : k < la.length := by rw [HLA.out]; exact hlt
      have hj1 : j < la.length := by rw [HLA.out]; exact hjn
      obtain ⟨b, o, rfl, hbl, hc1⟩ := (HRA.out.below HBW.out).at_ (by rw [rows_length]; exact Nat.mul_pos (by omega) (by decide))
      obtain ⟨x0, x1, x2, x3, x4, x5, x6, x7, x8⟩ := ev_cells hc1 hk1 rfl
      obtain ⟨y0, y1, y2, y3, y4, y5, y6, y7, y8⟩ := ev_cells hc1 hj1 rfl
      have he1 := (HEA.out.below HBW.out).at hk1
      have he2 := (HEA.out.below HBW.out).at hj1
      have hs1 : EvSm (l.getD k evNone) := (HI.out _ (by rw [List.getD, List.getElem?_eq_getElem (by rw [HLN.out]; exact hlt)]; exact List.getElem_mem _)).2
      have hs2 : EvSm (l.getD j evNone) := (HI.out _ (by rw [List.getD, List.getElem?_eq_getElem (by rw [HLN.out]; exact hjn)]; exact List.getElem_mem _)).2
      have HS1 := Lib.hid (fun W (h : Below wr.heap.size wr W) => evSame_any (la.getD k EvR.none) (la.getD j EvR.none) _ _ W (he1.below h) (he2.below h) (he1.small hs1) (he2.small hs2))
      have HS2 := Lib.hid (fun W (h : Below wr.heap.size wr W) => evPlain_any (la.getD k EvR.none) (la.getD j EvR.none) _ _ W (he1.below h) (he2.below h) (he1.small hs1) (he2.small hs2))
      have HS3 := Lib.hid (fun W (h : Below wr.heap.size wr W) => evSame_any (la.getD k EvR.none) (la.getD k EvR.none) _ _ W (he1.below h) (he1.below h) (he1.small hs1) (he1.small hs1))
      simp only [decide_true] at HS3
      have HNX : RowKit.Hid (n - (k + 1) < n - k) := Lib.hid (by omega)
      generalize decide (l.getD k evNone = l.getD j evNone) = dv at *
      clear he1 he2 hs1 hs2 hc1
      generalize la.getD k EvR.none = a at *
      generalize la.getD j EvR.none = e at *
      obtain ⟨k1, t1, ⟨qk1, qa1, qv1, qd1, QA1, qn1, qc1⟩, i1, OA1, on1, oc1⟩ := a
      obtain ⟨k2, t2, ⟨qk2, qa2, qv2, qd2, QA2, qn2, qc2⟩, i2, OA2, on2, oc2⟩ := e
      unfold evV at HS1 HS2 HS3
      simp only at x0 x1 x2 x3 x4 x5 x6 x7 x8 y0 y1 y2 y3 y4 y5 y6 y7 y8 HS1 HS2 HS3
      have HBX := Lib.hid (((Below.refl wr.heap.size wr).alloc (Nat.le_refl _) (.cells #[.int .i64 k1, .int .i64 t1, .int .i64 qk1, .int .i64 qa1, .int .i64 qv1, .bool qd1, .slice QA1 qn1 qc1, .int .i64 i1, .slice OA1 on1 oc1] 74)).alloc (by simp) (.cells #[.int .i64 k2, .int .i64 t2, .int .i64 qk2, .int .i64 qa2, .int .i64 qv2, .bool qd2, .slice QA2 qn2 qc2, .int .i64 i2, .slice OA2 on2 oc2] 74))
      have HX1 : RowKit.Hid (Blk ((wr.alloc (.cells #[.int .i64 k1, .int .i64 t1, .int .i64 qk1, .int .i64 qa1, .int .i64 qv1, .bool qd1, .slice QA1 qn1 qc1, .int .i64 i1, .slice OA1 on1 oc1] 74)).alloc (.cells #[.int .i64 k2, .int .i64 t2, .int .i64 qk2, .int .i64 qa2, .int .i64 qv2, .bool qd2, .slice QA2 qn2 qc2, .int .i64 i2, .slice OA2 on2 oc2] 74)) wr.heap.size 74 [.int .i64 k1, .int .i64 t1, .int .i64 qk1, .int .i64 qa1, .int .i64 qv1, .bool qd1, .slice QA1 qn1 qc1, .int .i64 i1, .slice OA1 on1 oc1]) := Lib.hid ((Blk.new wr _ _).alloc _)
      have HX2 : RowKit.Hid (Blk ((wr.alloc (.cells #[.int .i64 k1, .int .i64 t1, .int .i64 qk1, .int .i64 qa1, .int .i64 qv1, .bool qd1, .slice QA1 qn1 qc1, .int .i64 i1, .slice OA1 on1 oc1] 74)).alloc (.cells #[.int .i64 k2, .int .i64 t2, .int .i64 qk2, .int .i64 qa2, .int .i64 qv2, .bool qd2, .slice QA2 qn2 qc2, .int .i64 i2, .slice OA2 on2 oc2] 74)) (wr.heap.size + 1) 74 [.int .i64 k2, .int .i64 t2, .int .i64 qk2, .int .i64 qa2, .int .i64 qv2, .bool qd2, .slice QA2 qn2 qc2, .int .i64 i2, .slice OA2 on2 oc2]) := Lib.hid (blk_new (by simp))
      have p1 : (0 : Int) ≤ (j : Int) := by omega
      have p2 : (j : Int) < (n : Int) := by omega
      rcases Nat.eq_zero_or_pos k with hk0 | hk0
      case inl =>
        subst hk0
        obtain rfl : j = 0 := hj
        have hmx : max (-1 : Int) 0 = 0 := rfl
        simp only [Nat.zero_mul, Nat.add_zero] at x0 x1 x2 x3 x4 x5 x6 x7 x8 y0 y1 y2 y3 y4 y5 y6 y7 y8
        have z0 := x0.symm.trans y0
        have z1 := x1.symm.trans y1
        have z2 := x2.symm.trans y2
        have z3 := x3.symm.trans y3
        have z4 := x4.symm.trans y4
        have z5 := x5.symm.trans y5
        have z6 := x6.symm.trans y6
        have z7 := x7.symm.trans y7
        have z8 := x8.symm.trans y8
        simp only [Option.some.injEq, Value.int.injEq, Value.bool.injEq, Value.slice.injEq, true_and] at z0 z1 z2 z3 z4 z5 z6 z7 z8
        obtain ⟨za, zb, zc⟩ := z6
        obtain ⟨zd, ze, zf⟩ := z8
        subst z0 z1 z2 z3 z4 z5 z7 za zb zc zd ze zf
        clear y0 y1 y2 y3 y4 y5 y6 y7 y8
        go_upto_region 7 with (fail)
        generalize (wr.alloc (.cells #[.int .i64 k1, .int .i64 t1, .int .i64 qk1, .int .i64 qa1, .int .i64 qv1, .bool qd1, .slice QA1 qn1 qc1, .int .i64 i1, .slice OA1 on1 oc1] 74)).alloc (.cells #[.int .i64 k1, .int .i64 t1, .int .i64 qk1, .int .i64 qa1, .int .i64 qv1, .bool qd1, .slice QA1 qn1 qc1, .int .i64 i1, .slice OA1 on1 oc1] 74) = W0 at *
        obtain ⟨L1, hL1⟩ : ∃ L : List Value, L = [.int .i64 k1, .int .i64 t1, .int .i64 qk1, .int .i64 qa1, .int .i64 qv1, .bool qd1, .slice QA1 qn1 qc1, .int .i64 i1, .slice OA1 on1 oc1] := ⟨_, rfl⟩
        obtain ⟨L2, hL2⟩ : ∃ L : List Value, L = [.int .i64 k1, .int .i64 t1, .int .i64 qk1, .int .i64 qa1, .int .i64 qv1, .bool qd1, .slice QA1 qn1 qc1, .int .i64 i1, .slice OA1 on1 oc1] := ⟨_, rfl⟩
        rw [← hL1] at HX1
        rw [← hL2] at HX2
        have HI1 : RowKit.Hid ((Tryz.prog.info? 74).map (·.size) = some L1.length) := Lib.hid (by rw [hL1]; exact ev_size)
        have HI2 : RowKit.Hid ((Tryz.prog.info? 74).map (·.size) = some L2.length) := Lib.hid (by rw [hL2]; exact ev_size)
        have HS1' : RowKit.Hid (∀ W, Below W0.heap.size W0 W → Calls Tryz.prog 27 #[.agg L1.toArray, .agg L2.toArray] W fun e w' => e = .returned (.bool dv) ∧ Below W.heap.size W w') := Lib.hid (by rw [hL1, hL2]; exact fun W h => HS1.out W (HBX.out.trans (h.mono HBX.out.size)))
        have HS2' : RowKit.Hid (∀ W, Below W0.heap.size W0 W → Calls Tryz.prog 28 #[.agg L1.toArray, .agg L2.toArray] W fun e w' => e = .returned (.bool dv) ∧ Below W.heap.size W w') := Lib.hid (by rw [hL1, hL2]; exact fun W h => HS2.out W (HBX.out.trans (h.mono HBX.out.size)))
        have HS3' : RowKit.Hid (∀ W, Below W0.heap.size W0 W → Calls Tryz.prog 27 #[.agg L1.toArray, .agg L1.toArray] W fun e w' => e = .returned (.bool true) ∧ Below W.heap.size W w') := Lib.hid (by rw [hL1]; exact fun W h => HS3.out W (HBX.out.trans (h.mono HBX.out.size)))
        have HSB : RowKit.Hid (∀ w', Below W0.heap.size W0 w' → (w'.rangeAt wr.heap.size 0 L1 ∧ w'.rangeAt (wr.heap.size + 1) 0 L2)) := Lib.hid (fun w' hb => ⟨fun j v hv => by rw [Nat.zero_add]; exact (HX1.out.below hb HX1.out.lt).cell hv, fun j v hv => by rw [Nat.zero_add]; exact (HX2.out.below hb HX2.out.lt).cell hv⟩)
        have HP0 : RowKit.Hid (Below W0.heap.size W0 W0.drew) := Lib.hid (Below.drewN' (Below.refl W0.heap.size W0) 1)
        clear HS1 HS2 HS3 hL1 hL2
        refine wp_region_held_drew (S := fun w' => w'.rangeAt wr.heap.size 0 L1 ∧ w'.rangeAt (wr.heap.size + 1) 0 L2) (by kernel_rfl) (HSB.out _ (Below.drewN' (Below.refl W0.heap.size W0) 1)) (fun hHeld => ?_)
        refine wpAnyH_take (i := 0) (v := .agg L1.toArray) rfl (by kernel_rfl) (by kernel_rfl) (by kernel_rfl) (fun _ _ _ h => h) (yieldsIf_load_mid (by rfl) _ _ rfl _ _ rfl L1 _ (fun _ h => h.1) HU.out rfl HI1.out) hHeld ?_
        try simp only [Act.put, List.getElem_toArray, List.getElem_cons_zero, List.setIfInBounds_toArray, List.set_cons_zero, List.set_cons_succ]
        refine wpAnyH_take (i := 1) (v := .agg L2.toArray) rfl (by kernel_rfl) (by kernel_rfl) (by kernel_rfl) (fun _ _ _ h => h) (yieldsIf_load_mid (by rfl) _ _ rfl _ _ rfl L2 _ (fun _ h => h.2) HU.out rfl HI2.out) hHeld ?_
        try simp only [Act.put, List.getElem_toArray, List.getElem_cons_succ, List.getElem_cons_zero, List.setIfInBounds_toArray, List.set_cons_zero, List.set_cons_succ]
        refine wpAnyH_take (i := 3) (v := .agg L1.toArray) rfl (by kernel_rfl) (by kernel_rfl) (by kernel_rfl) (fun _ _ _ h => h) (yieldsIf_load_mid (by rfl) _ _ rfl _ _ rfl L1 _ (fun _ h => h.1) HU.out rfl HI1.out) hHeld ?_
        try simp only [Act.put, List.getElem_toArray, List.getElem_cons_succ, List.getElem_cons_zero, List.setIfInBounds_toArray, List.set_cons_zero, List.set_cons_succ]
        refine wpAnyH_take (i := 4) (v := .agg L2.toArray) rfl (by kernel_rfl) (by kernel_rfl) (by kernel_rfl) (fun _ _ _ h => h) (yieldsIf_load_mid (by rfl) _ _ rfl _ _ rfl L2 _ (fun _ h => h.2) HU.out rfl HI2.out) hHeld ?_
        try simp only [Act.put, List.getElem_toArray, List.getElem_cons_succ, List.getElem_cons_zero, List.setIfInBounds_toArray, List.set_cons_zero, List.set_cons_succ]
        refine wpAnyH_ready (rs := [2]) (by kernel_rfl) (by simp) ?_
        refine AllReadyH.cons rfl (fun K hK => ?_) AllReadyH.nil
        clear hHeld
        rw [if_pos (by rfl)]
        simp only [List.getElem_toArray, List.getElem_cons_succ, List.getElem_cons_zero]
        go_simp
        refine (HS1'.out W0.drew HP0.out).mono ?_
        rintro er v1 ⟨rfl, hb1⟩
        have hB1 : Below W0.heap.size W0 v1 := ⟨hb1.os, hb1.tape, hb1.output, hb1.size, hb1.block⟩
        go_wp2_with fail
        refine hK.out _ _ (HSB.out _ hB1) (fun hHeld => ?_)
        clear hK K
        try simp only [Act.put, List.getElem_toArray, List.getElem_cons_succ, List.getElem_cons_zero, List.setIfInBounds_toArray, List.set_cons_zero, List.set_cons_succ]
        refine wpAnyH_ready (rs := [5]) (by kernel_rfl) (by simp) ?_
        refine AllReadyH.cons rfl (fun K hK => ?_) AllReadyH.nil
        clear hHeld
        rw [if_pos (by rfl)]
        simp only [List.getElem_toArray, List.getElem_cons_succ, List.getElem_cons_zero]
        go_simp
        refine (HS2'.out v1 hB1).mono ?_
        rintro er v2 ⟨rfl, hb2⟩
        have hB2 : Below W0.heap.size W0 v2 := hB1.trans (hb2.mono hB1.size)
        go_wp2_with fail
        refine hK.out _ _ (HSB.out _ hB2) (fun hHeld => ?_)
        clear hK K
        try simp only [Act.put, List.getElem_toArray, List.getElem_cons_succ, List.getElem_cons_zero, List.setIfInBounds_toArray, List.set_cons_zero, List.set_cons_succ]
        refine wpAnyH_take (i := 6) (v := .bool false) rfl (by kernel_rfl) (by kernel_rfl) (by kernel_rfl) (fun _ _ _ h => h) (Or.inl ⟨by rfl, fun w hSw => by go_simp⟩) hHeld ?_
        try simp only [Act.put, List.getElem_toArray, List.getElem_cons_succ, List.getElem_cons_zero, List.setIfInBounds_toArray, List.set_cons_zero, List.set_cons_succ]
        refine wpAnyH_take (i := 7) (v := .bool false) rfl (by kernel_rfl) (by kernel_rfl) (by kernel_rfl) (fun _ _ _ h => h) (Or.inl ⟨by rfl, fun w hSw => by go_simp⟩) hHeld ?_
        try simp only [Act.put, List.getElem_toArray, List.getElem_cons_succ, List.getElem_cons_zero, List.setIfInBounds_toArray, List.set_cons_zero, List.set_cons_succ]
        refine wpAnyH_take (i := 8) (v := .agg L1.toArray) rfl (by kernel_rfl) (by kernel_rfl) (by kernel_rfl) (fun _ _ _ h => h) (yieldsIf_load_mid (by rfl) _ _ rfl _ _ rfl L1 _ (fun _ h => h.1) HU.out rfl HI1.out) hHeld ?_
        try simp only [Act.put, List.getElem_toArray, List.getElem_cons_succ, List.getElem_cons_zero, List.setIfInBounds_toArray, List.set_cons_zero, List.set_cons_succ]
        refine wpAnyH_take (i := 9) (v := .agg L1.toArray) rfl (by kernel_rfl) (by kernel_rfl) (by kernel_rfl) (fun _ _ _ h => h) (yieldsIf_load_mid (by rfl) _ _ rfl _ _ rfl L1 _ (fun _ h => h.1) HU.out rfl HI1.out) hHeld ?_
        try simp only [Act.put, List.getElem_toArray, List.getElem_cons_succ, List.getElem_cons_zero, List.setIfInBounds_toArray, List.set_cons_zero, List.set_cons_succ]
        refine wpAnyH_ready (rs := [10]) (by kernel_rfl) (by simp) ?_
        refine AllReadyH.cons rfl (fun K hK => ?_) AllReadyH.nil
        clear hHeld
        rw [if_pos (by rfl)]
        simp only [List.getElem_toArray, List.getElem_cons_succ, List.getElem_cons_zero]
        go_simp
        refine (HS3'.out v2 hB2).mono ?_
        rintro er v3 ⟨rfl, hb3⟩
        have hB3 : Below W0.heap.size W0 v3 := hB2.trans (hb3.mono hB2.size)
        go_wp2_with fail
        refine hK.out _ _ (HSB.out _ hB3) (fun hHeld => ?_)
        clear hK K
        try simp only [Act.put, List.getElem_toArray, List.getElem_cons_succ, List.getElem_cons_zero, List.setIfInBounds_toArray, List.set_cons_zero, List.set_cons_succ]
        refine wpAnyH_take (i := 11) (v := .bool false) rfl (by kernel_rfl) (by kernel_rfl) (by kernel_rfl) (fun _ _ _ h => h) (Or.inl ⟨by rfl, fun w hSw => by go_simp⟩) hHeld ?_
        try simp only [Act.put, List.getElem_toArray, List.getElem_cons_succ, List.getElem_cons_zero, List.setIfInBounds_toArray, List.set_cons_zero, List.set_cons_succ]
        refine wpAnyH_take (i := 12) (v := .bool false) rfl (by kernel_rfl) (by kernel_rfl) (by kernel_rfl) (fun _ _ _ h => h) (Or.inl ⟨by rfl, fun w hSw => by go_simp⟩) hHeld ?_
        try simp only [Act.put, List.getElem_toArray, List.getElem_cons_succ, List.getElem_cons_zero, List.setIfInBounds_toArray, List.set_cons_zero, List.set_cons_succ]
        clear hHeld
        refine wpAnyH_done (by kernel_rfl) ?_ _
        have HB3 := Lib.hid (HBX.out.trans (hB3.mono HBX.out.size))
        clear hb1 hb2 hb3 hB1 hB2 hB3
        go_wp2_with fail
        go_roundg (n - (0 + 1))
        case measure => rw [HG.out]; exact HNX.out
        case rel => exact ⟨0 + 1, by omega, rfl, by go_num, HBW.out.trans (HB3.out.mono HBW.out.size), HBWQ.out.trans (HB3.out.mono HBWQ.out.size)⟩
      case inr =>
        obtain rfl : k = j + 1 := by omega
        clear hj
        have q4 : ((j : Int) + 1) < (n : Int) := by omega
        have b1l := Nat.lt_of_lt_of_le hbl HBX.out.size
        go_upto_region 7 with (fail)
        generalize (wr.alloc (.cells #[.int .i64 k1, .int .i64 t1, .int .i64 qk1, .int .i64 qa1, .int .i64 qv1, .bool qd1, .slice QA1 qn1 qc1, .int .i64 i1, .slice OA1 on1 oc1] 74)).alloc (.cells #[.int .i64 k2, .int .i64 t2, .int .i64 qk2, .int .i64 qa2, .int .i64 qv2, .bool qd2, .slice QA2 qn2 qc2, .int .i64 i2, .slice OA2 on2 oc2] 74) = W0 at *
        obtain ⟨L1, hL1⟩ : ∃ L : List Value, L = [.int .i64 k1, .int .i64 t1, .int .i64 qk1, .int .i64 qa1, .int .i64 qv1, .bool qd1, .slice QA1 qn1 qc1, .int .i64 i1, .slice OA1 on1 oc1] := ⟨_, rfl⟩
        obtain ⟨L2, hL2⟩ : ∃ L : List Value, L = [.int .i64 k2, .int .i64 t2, .int .i64 qk2, .int .i64 qa2, .int .i64 qv2, .bool qd2, .slice QA2 qn2 qc2, .int .i64 i2, .slice OA2 on2 oc2] := ⟨_, rfl⟩
        rw [← hL1] at HX1
        rw [← hL2] at HX2
        have HI1 : RowKit.Hid ((Tryz.prog.info? 74).map (·.size) = some L1.length) := Lib.hid (by rw [hL1]; exact ev_size)
        have HI2 : RowKit.Hid ((Tryz.prog.info? 74).map (·.size) = some L2.length) := Lib.hid (by rw [hL2]; exact ev_size)
        have HS1' : RowKit.Hid (∀ W, Below W0.heap.size W0 W → Calls Tryz.prog 27 #[.agg L1.toArray, .agg L2.toArray] W fun e w' => e = .returned (.bool dv) ∧ Below W.heap.size W w') := Lib.hid (by rw [hL1, hL2]; exact fun W h => HS1.out W (HBX.out.trans (h.mono HBX.out.size)))
        have HS2' : RowKit.Hid (∀ W, Below W0.heap.size W0 W → Calls Tryz.prog 28 #[.agg L1.toArray, .agg L2.toArray] W fun e w' => e = .returned (.bool dv) ∧ Below W.heap.size W w') := Lib.hid (by rw [hL1, hL2]; exact fun W h => HS2.out W (HBX.out.trans (h.mono HBX.out.size)))
        have HS3' : RowKit.Hid (∀ W, Below W0.heap.size W0 W → Calls Tryz.prog 27 #[.agg L1.toArray, .agg L1.toArray] W fun e w' => e = .returned (.bool true) ∧ Below W.heap.size W w') := Lib.hid (by rw [hL1]; exact fun W h => HS3.out W (HBX.out.trans (h.mono HBX.out.size)))
        have HSB : RowKit.Hid (∀ w', Below W0.heap.size W0 w' → (w'.rangeAt wr.heap.size 0 L1 ∧ w'.rangeAt (wr.heap.size + 1) 0 L2)) := Lib.hid (fun w' hb => ⟨fun j v hv => by rw [Nat.zero_add]; exact (HX1.out.below hb HX1.out.lt).cell hv, fun j v hv => by rw [Nat.zero_add]; exact (HX2.out.below hb HX2.out.lt).cell hv⟩)
        have HP0 : RowKit.Hid (Below W0.heap.size W0 W0.drew) := Lib.hid (Below.drewN' (Below.refl W0.heap.size W0) 1)
        clear HS1 HS2 HS3 hL1 hL2
        refine wp_region_held_drew (S := fun w' => w'.rangeAt wr.heap.size 0 L1 ∧ w'.rangeAt (wr.heap.size + 1) 0 L2) (by kernel_rfl) (HSB.out _ (Below.drewN' (Below.refl W0.heap.size W0) 1)) (fun hHeld => ?_)
        refine wpAnyH_take (i := 0) (v := .agg L1.toArray) rfl (by kernel_rfl) (by kernel_rfl) (by kernel_rfl) (fun _ _ _ h => h) (yieldsIf_load_mid (by rfl) _ _ rfl _ _ rfl L1 _ (fun _ h => h.1) HU.out rfl HI1.out) hHeld ?_
        try simp only [Act.put, List.getElem_toArray, List.getElem_cons_zero, List.setIfInBounds_toArray, List.set_cons_zero, List.set_cons_succ]
        refine wpAnyH_take (i := 1) (v := .agg L2.toArray) rfl (by kernel_rfl) (by kernel_rfl) (by kernel_rfl) (fun _ _ _ h => h) (yieldsIf_load_mid (by rfl) _ _ rfl _ _ rfl L2 _ (fun _ h => h.2) HU.out rfl HI2.out) hHeld ?_
        try simp only [Act.put, List.getElem_toArray, List.getElem_cons_succ, List.getElem_cons_zero, List.setIfInBounds_toArray, List.set_cons_zero, List.set_cons_succ]
        refine wpAnyH_take (i := 3) (v := .agg L1.toArray) rfl (by kernel_rfl) (by kernel_rfl) (by kernel_rfl) (fun _ _ _ h => h) (yieldsIf_load_mid (by rfl) _ _ rfl _ _ rfl L1 _ (fun _ h => h.1) HU.out rfl HI1.out) hHeld ?_
        try simp only [Act.put, List.getElem_toArray, List.getElem_cons_succ, List.getElem_cons_zero, List.setIfInBounds_toArray, List.set_cons_zero, List.set_cons_succ]
        refine wpAnyH_take (i := 4) (v := .agg L2.toArray) rfl (by kernel_rfl) (by kernel_rfl) (by kernel_rfl) (fun _ _ _ h => h) (yieldsIf_load_mid (by rfl) _ _ rfl _ _ rfl L2 _ (fun _ h => h.2) HU.out rfl HI2.out) hHeld ?_
        try simp only [Act.put, List.getElem_toArray, List.getElem_cons_succ, List.getElem_cons_zero, List.setIfInBounds_toArray, List.set_cons_zero, List.set_cons_succ]
        refine wpAnyH_ready (rs := [2]) (by kernel_rfl) (by simp) ?_
        refine AllReadyH.cons rfl (fun K hK => ?_) AllReadyH.nil
        clear hHeld
        rw [if_pos (by rfl)]
        simp only [List.getElem_toArray, List.getElem_cons_succ, List.getElem_cons_zero]
        go_simp
        refine (HS1'.out W0.drew HP0.out).mono ?_
        rintro er v1 ⟨rfl, hb1⟩
        have hB1 : Below W0.heap.size W0 v1 := ⟨hb1.os, hb1.tape, hb1.output, hb1.size, hb1.block⟩
        go_wp2_with fail
        refine hK.out _ _ (HSB.out _ hB1) (fun hHeld => ?_)
        clear hK K
        try simp only [Act.put, List.getElem_toArray, List.getElem_cons_succ, List.getElem_cons_zero, List.setIfInBounds_toArray, List.set_cons_zero, List.set_cons_succ]
        refine wpAnyH_ready (rs := [5]) (by kernel_rfl) (by simp) ?_
        refine AllReadyH.cons rfl (fun K hK => ?_) AllReadyH.nil
        clear hHeld
        rw [if_pos (by rfl)]
        simp only [List.getElem_toArray, List.getElem_cons_succ, List.getElem_cons_zero]
        go_simp
        refine (HS2'.out v1 hB1).mono ?_
        rintro er v2 ⟨rfl, hb2⟩
        have hB2 : Below W0.heap.size W0 v2 := hB1.trans (hb2.mono hB1.size)
        go_wp2_with fail
        refine hK.out _ _ (HSB.out _ hB2) (fun hHeld => ?_)
        clear hK K
        try simp only [Act.put, List.getElem_toArray, List.getElem_cons_succ, List.getElem_cons_zero, List.setIfInBounds_toArray, List.set_cons_zero, List.set_cons_succ]
        refine wpAnyH_take (i := 6) (v := .bool false) rfl (by kernel_rfl) (by kernel_rfl) (by kernel_rfl) (fun _ _ _ h => h) (Or.inl ⟨by rfl, fun w hSw => by go_simp⟩) hHeld ?_
        try simp only [Act.put, List.getElem_toArray, List.getElem_cons_succ, List.getElem_cons_zero, List.setIfInBounds_toArray, List.set_cons_zero, List.set_cons_succ]
        refine wpAnyH_take (i := 7) (v := .bool false) rfl (by kernel_rfl) (by kernel_rfl) (by kernel_rfl) (fun _ _ _ h => h) (Or.inl ⟨by rfl, fun w hSw => by go_simp⟩) hHeld ?_
        try simp only [Act.put, List.getElem_toArray, List.getElem_cons_succ, List.getElem_cons_zero, List.setIfInBounds_toArray, List.set_cons_zero, List.set_cons_succ]
        refine wpAnyH_take (i := 8) (v := .agg L1.toArray) rfl (by kernel_rfl) (by kernel_rfl) (by kernel_rfl) (fun _ _ _ h => h) (yieldsIf_load_mid (by rfl) _ _ rfl _ _ rfl L1 _ (fun _ h => h.1) HU.out rfl HI1.out) hHeld ?_
        try simp only [Act.put, List.getElem_toArray, List.getElem_cons_succ, List.getElem_cons_zero, List.setIfInBounds_toArray, List.set_cons_zero, List.set_cons_succ]
        refine wpAnyH_take (i := 9) (v := .agg L1.toArray) rfl (by kernel_rfl) (by kernel_rfl) (by kernel_rfl) (fun _ _ _ h => h) (yieldsIf_load_mid (by rfl) _ _ rfl _ _ rfl L1 _ (fun _ h => h.1) HU.out rfl HI1.out) hHeld ?_
        try simp only [Act.put, List.getElem_toArray, List.getElem_cons_succ, List.getElem_cons_zero, List.setIfInBounds_toArray, List.set_cons_zero, List.set_cons_succ]
        refine wpAnyH_ready (rs := [10]) (by kernel_rfl) (by simp) ?_
        refine AllReadyH.cons rfl (fun K hK => ?_) AllReadyH.nil
        clear hHeld
        rw [if_pos (by rfl)]
        simp only [List.getElem_toArray, List.getElem_cons_succ, List.getElem_cons_zero]
        go_simp
        refine (HS3'.out v2 hB2).mono ?_
        rintro er v3 ⟨rfl, hb3⟩
        have hB3 : Below W0.heap.size W0 v3 := hB2.trans (hb3.mono hB2.size)
        go_wp2_with fail
        refine hK.out _ _ (HSB.out _ hB3) (fun hHeld => ?_)
        clear hK K
        try simp only [Act.put, List.getElem_toArray, List.getElem_cons_succ, List.getElem_cons_zero, List.setIfInBounds_toArray, List.set_cons_zero, List.set_cons_succ]
        refine wpAnyH_take (i := 11) (v := .bool false) rfl (by kernel_rfl) (by kernel_rfl) (by kernel_rfl) (fun _ _ _ h => h) (Or.inl ⟨by rfl, fun w hSw => by go_simp⟩) hHeld ?_
        try simp only [Act.put, List.getElem_toArray, List.getElem_cons_succ, List.getElem_cons_zero, List.setIfInBounds_toArray, List.set_cons_zero, List.set_cons_succ]
        refine wpAnyH_take (i := 12) (v := .bool false) rfl (by kernel_rfl) (by kernel_rfl) (by kernel_rfl) (fun _ _ _ h => h) (Or.inl ⟨by rfl, fun w hSw => by go_simp⟩) hHeld ?_
        try simp only [Act.put, List.getElem_toArray, List.getElem_cons_succ, List.getElem_cons_zero, List.setIfInBounds_toArray, List.set_cons_zero, List.set_cons_succ]
        clear hHeld
        refine wpAnyH_done (by kernel_rfl) ?_ _
        have HB3 := Lib.hid (HBX.out.trans (hB3.mono HBX.out.size))
        clear hb1 hb2 hb3 hB1 hB2 hB3
        go_wp2_with fail
        go_roundg (n - (j + 1 + 1))
        case measure => rw [HG.out]; exact HNX.out
        case rel => exact ⟨j + 1 + 1, by omega, rfl, by go_num, HBW.out.trans (HB3.out.mono HBW.out.size), HBWQ.out.trans (HB3.out.mono HBWQ.out.size)⟩
    · obtain rfl : k = n := by omega
      have q2 : ¬ (k : Int) < (k : Int) := by omega
      rw [← text_same] at HRT
      generalize (textP l).getD ⟨#[]⟩ = s0 at *
      generalize (textP l).isSome = b0 at *
      generalize callS ⟨qk, qa, qv, qd, QA, qn, qc⟩ cs = s1 at *
      have HUQ := Lib.hid Tryz.underlying24
      clear hlt
      go_upto_region 12 with (first
        | (go_at_call 29; refine (HTX.out _ HBW.out).mono ?_; rintro er w1 ⟨rfl, hb1⟩; have HB1 := Lib.hid (HBW.out.trans (hb1.mono HBW.out.size)); have HW1 := Lib.hid (HBWQ.out.trans (hb1.mono HBWQ.out.size)); clear hb1)
        | (go_at_call 30; refine (HRT.out _ HB1.out).mono ?_; rintro er w2 ⟨rfl, hb2⟩; have HB2 := Lib.hid (HB1.out.trans (hb2.mono HB1.out.size)); have HW2 := Lib.hid (HW1.out.trans (hb2.mono HW1.out.size)); clear hb2))
      have HBQ2 := Lib.hid (HBQ.out.below HW2.out HBQ.out.lt)
      obtain ⟨LQ, hLQ⟩ : ∃ L : List Value, L = [.int .i64 qk, .int .i64 qa, .int .i64 qv, .bool qd, .slice QA qn qc] := ⟨_, rfl⟩
      rw [← hLQ] at HBQ2
      have HIQ : RowKit.Hid ((Tryz.prog.info? 24).map (·.size) = some LQ.length) := Lib.hid (by rw [hLQ]; kernel_rfl)
      have HSY' : RowKit.Hid (∀ W, Below w2.heap.size w2 W → Calls Tryz.prog 31 #[.agg LQ.toArray] W fun e w' => e = .returned (.string s1) ∧ Below W.heap.size W w') := Lib.hid (by rw [hLQ]; exact fun W h => HSY.out W (HB2.out.trans (h.mono HB2.out.size)))
      have HRY' : RowKit.Hid (∀ W, Below w2.heap.size w2 W → Calls Tryz.prog 32 #[.agg LQ.toArray] W fun e w' => e = .returned (.string s1) ∧ Below W.heap.size W w') := Lib.hid (by rw [hLQ]; exact fun W h => HRY.out W (HB2.out.trans (h.mono HB2.out.size)))
      have HSB : RowKit.Hid (∀ w', Below w2.heap.size w2 w' → w'.rangeAt w.heap.size 0 LQ) := Lib.hid (fun w' hb => fun j v hv => by rw [Nat.zero_add]; exact (HBQ2.out.below hb HBQ2.out.lt).cell hv)
      have HP0 : RowKit.Hid (Below w2.heap.size w2 w2.drew) := Lib.hid (Below.drewN' (Below.refl w2.heap.size w2) 1)
      clear hLQ HSY HRY HTX HRT
      refine wp_region_held_drew (S := fun w' => w'.rangeAt w.heap.size 0 LQ) (by kernel_rfl) (HSB.out _ (Below.drewN' (Below.refl w2.heap.size w2) 1)) (fun hHeld => ?_)
      refine wpAnyH_take (i := 0) (v := .string s0) rfl (by kernel_rfl) (by kernel_rfl) (by kernel_rfl) (fun _ _ _ h => h) (Or.inl ⟨by rfl, fun w hSw => by go_simp⟩) hHeld ?_
      try simp only [Act.put, List.getElem_toArray, List.getElem_cons_zero, List.setIfInBounds_toArray, List.set_cons_zero, List.set_cons_succ]
      refine wpAnyH_take (i := 1) (v := .string s0) rfl (by kernel_rfl) (by kernel_rfl) (by kernel_rfl) (fun _ _ _ h => h) (Or.inl ⟨by rfl, fun w hSw => by go_simp⟩) hHeld ?_
      try simp only [Act.put, List.getElem_toArray, List.getElem_cons_succ, List.getElem_cons_zero, List.setIfInBounds_toArray, List.set_cons_zero, List.set_cons_succ]
      refine wpAnyH_take (i := 2) (v := .bool true) rfl (by kernel_rfl) (by kernel_rfl) (by kernel_rfl) (fun _ _ _ h => h) (Or.inl ⟨by rfl, fun w hSw => by go_simp⟩) hHeld ?_
      try simp only [Act.put, List.getElem_toArray, List.getElem_cons_succ, List.getElem_cons_zero, List.setIfInBounds_toArray, List.set_cons_zero, List.set_cons_succ]
      refine wpAnyH_take (i := 3) (v := .bool true) rfl (by kernel_rfl) (by kernel_rfl) (by kernel_rfl) (fun _ _ _ h => h) (Or.inl ⟨by rfl, fun w hSw => by go_simp⟩) hHeld ?_
      try simp only [Act.put, List.getElem_toArray, List.getElem_cons_succ, List.getElem_cons_zero, List.setIfInBounds_toArray, List.set_cons_zero, List.set_cons_succ]
      refine wpAnyH_take (i := 4) (v := .bool b0) rfl (by kernel_rfl) (by kernel_rfl) (by kernel_rfl) (fun _ _ _ h => h) (Or.inl ⟨by rfl, fun w hSw => by go_simp⟩) hHeld ?_
      try simp only [Act.put, List.getElem_toArray, List.getElem_cons_succ, List.getElem_cons_zero, List.setIfInBounds_toArray, List.set_cons_zero, List.set_cons_succ]
      refine wpAnyH_take (i := 5) (v := .bool b0) rfl (by kernel_rfl) (by kernel_rfl) (by kernel_rfl) (fun _ _ _ h => h) (Or.inl ⟨by rfl, fun w hSw => by go_simp⟩) hHeld ?_
      try simp only [Act.put, List.getElem_toArray, List.getElem_cons_succ, List.getElem_cons_zero, List.setIfInBounds_toArray, List.set_cons_zero, List.set_cons_succ]
      refine wpAnyH_take (i := 6) (v := .bool true) rfl (by kernel_rfl) (by kernel_rfl) (by kernel_rfl) (fun _ _ _ h => h) (Or.inl ⟨by rfl, fun w hSw => by go_simp⟩) hHeld ?_
      try simp only [Act.put, List.getElem_toArray, List.getElem_cons_succ, List.getElem_cons_zero, List.setIfInBounds_toArray, List.set_cons_zero, List.set_cons_succ]
      refine wpAnyH_take (i := 7) (v := .bool true) rfl (by kernel_rfl) (by kernel_rfl) (by kernel_rfl) (fun _ _ _ h => h) (Or.inl ⟨by rfl, fun w hSw => by go_simp⟩) hHeld ?_
      try simp only [Act.put, List.getElem_toArray, List.getElem_cons_succ, List.getElem_cons_zero, List.setIfInBounds_toArray, List.set_cons_zero, List.set_cons_succ]
      refine wpAnyH_take (i := 8) (v := .bool true) rfl (by kernel_rfl) (by kernel_rfl) (by kernel_rfl) (fun _ _ _ h => h) (Or.inl ⟨by rfl, fun w hSw => by go_simp⟩) hHeld ?_
      try simp only [Act.put, List.getElem_toArray, List.getElem_cons_succ, List.getElem_cons_zero, List.setIfInBounds_toArray, List.set_cons_zero, List.set_cons_succ]
      refine wpAnyH_take (i := 9) (v := .agg LQ.toArray) rfl (by kernel_rfl) (by kernel_rfl) (by kernel_rfl) (fun _ _ _ h => h) (yieldsIf_load_mid (by rfl) _ _ rfl _ _ rfl LQ _ (fun _ h => h) HUQ.out rfl HIQ.out) hHeld ?_
      try simp only [Act.put, List.getElem_toArray, List.getElem_cons_succ, List.getElem_cons_zero, List.setIfInBounds_toArray, List.set_cons_zero, List.set_cons_succ]
      refine wpAnyH_take (i := 11) (v := .agg LQ.toArray) rfl (by kernel_rfl) (by kernel_rfl) (by kernel_rfl) (fun _ _ _ h => h) (yieldsIf_load_mid (by rfl) _ _ rfl _ _ rfl LQ _ (fun _ h => h) HUQ.out rfl HIQ.out) hHeld ?_
      try simp only [Act.put, List.getElem_toArray, List.getElem_cons_succ, List.getElem_cons_zero, List.setIfInBounds_toArray, List.set_cons_zero, List.set_cons_succ]
      refine wpAnyH_ready (rs := [10]) (by kernel_rfl) (by simp) ?_
      refine AllReadyH.cons rfl (fun K hK => ?_) AllReadyH.nil
      clear hHeld
      rw [if_pos (by rfl)]
      simp only [List.getElem_toArray, List.getElem_cons_succ, List.getElem_cons_zero]
      go_simp
      refine (HSY'.out w2.drew HP0.out).mono ?_
      rintro er v1 ⟨rfl, hb1⟩
      have hB1 : Below w2.heap.size w2 v1 := ⟨hb1.os, hb1.tape, hb1.output, hb1.size, hb1.block⟩
      go_wp2_with fail
      refine hK.out _ _ (HSB.out _ hB1) (fun hHeld => ?_)
      clear hK K
      try simp only [Act.put, List.getElem_toArray, List.getElem_cons_succ, List.getElem_cons_zero, List.setIfInBounds_toArray, List.set_cons_zero, List.set_cons_succ]
      refine wpAnyH_ready (rs := [12]) (by kernel_rfl) (by simp) ?_
      refine AllReadyH.cons rfl (fun K hK => ?_) AllReadyH.nil
      clear hHeld
      rw [if_pos (by rfl)]
      simp only [List.getElem_toArray, List.getElem_cons_succ, List.getElem_cons_zero]
      go_simp
      refine (HRY'.out v1 hB1).mono ?_
      rintro er v2 ⟨rfl, hb2⟩
      have hB2 : Below w2.heap.size w2 v2 := hB1.trans (hb2.mono hB1.size)
      go_wp2_with fail
      refine hK.out _ _ (HSB.out _ hB2) (fun hHeld => ?_)
      clear hK K
      try simp only [Act.put, List.getElem_toArray, List.getElem_cons_succ, List.getElem_cons_zero, List.setIfInBounds_toArray, List.set_cons_zero, List.set_cons_succ]
      refine wpAnyH_take (i := 13) (v := .bool true) rfl (by kernel_rfl) (by kernel_rfl) (by kernel_rfl) (fun _ _ _ h => h) (Or.inl ⟨by rfl, fun w hSw => by go_simp⟩) hHeld ?_
      try simp only [Act.put, List.getElem_toArray, List.getElem_cons_succ, List.getElem_cons_zero, List.setIfInBounds_toArray, List.set_cons_zero, List.set_cons_succ]
      refine wpAnyH_take (i := 14) (v := .bool true) rfl (by kernel_rfl) (by kernel_rfl) (by kernel_rfl) (fun _ _ _ h => h) (Or.inl ⟨by rfl, fun w hSw => by go_simp⟩) hHeld ?_
      try simp only [Act.put, List.getElem_toArray, List.getElem_cons_succ, List.getElem_cons_zero, List.setIfInBounds_toArray, List.set_cons_zero, List.set_cons_succ]
      refine wpAnyH_take (i := 15) (v := .bool true) rfl (by kernel_rfl) (by kernel_rfl) (by kernel_rfl) (fun _ _ _ h => h) (Or.inl ⟨by rfl, fun w hSw => by go_simp⟩) hHeld ?_
      try simp only [Act.put, List.getElem_toArray, List.getElem_cons_succ, List.getElem_cons_zero, List.setIfInBounds_toArray, List.set_cons_zero, List.set_cons_succ]
      refine wpAnyH_ready (rs := [16]) (by kernel_rfl) (by simp) ?_
      refine AllReadyH.cons rfl (fun K hK => ?_) AllReadyH.nil
      clear hHeld
      rw [if_pos (by rfl)]
      simp only [List.getElem_toArray, List.getElem_cons_succ, List.getElem_cons_zero]
      go_simp
      refine (HA.out v2 (HB2.out.trans (hB2.mono HB2.out.size))).mono ?_
      rintro er v3 ⟨rfl, hb3⟩
      have hB3 : Below w2.heap.size w2 v3 := hB2.trans (hb3.mono hB2.size)
      go_wp2_with fail
      refine hK.out _ _ (HSB.out _ hB3) (fun hHeld => ?_)
      clear hK K
      try simp only [Act.put, List.getElem_toArray, List.getElem_cons_succ, List.getElem_cons_zero, List.setIfInBounds_toArray, List.set_cons_zero, List.set_cons_succ]
      refine wpAnyH_take (i := 17) (v := .bool true) rfl (by kernel_rfl) (by kernel_rfl) (by kernel_rfl) (fun _ _ _ h => h) (Or.inl ⟨by rfl, fun w hSw => by go_simp⟩) hHeld ?_
      try simp only [Act.put, List.getElem_toArray, List.getElem_cons_succ, List.getElem_cons_zero, List.setIfInBounds_toArray, List.set_cons_zero, List.set_cons_succ]
      refine wpAnyH_take (i := 18) (v := .bool true) rfl (by kernel_rfl) (by kernel_rfl) (by kernel_rfl) (fun _ _ _ h => h) (Or.inl ⟨by rfl, fun w hSw => by go_simp⟩) hHeld ?_
      try simp only [Act.put, List.getElem_toArray, List.getElem_cons_succ, List.getElem_cons_zero, List.setIfInBounds_toArray, List.set_cons_zero, List.set_cons_succ]
      clear hHeld
      refine wpAnyH_done (by kernel_rfl) ?_ _
      have HB3 := Lib.hid (HB2.out.trans (hB3.mono HB2.out.size))
      clear hb1 hb2 hb3 hB1 hB2 hB3
      go_wp2_with fail
      go_ret
      exact ⟨by rfl, HB3.out⟩

end Go.Proofs.YtalkllfgedacoaaGreatDoor
