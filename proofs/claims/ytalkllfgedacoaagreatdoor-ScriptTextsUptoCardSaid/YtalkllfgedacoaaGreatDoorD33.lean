/- An event's line: the document's say, walked. -/
import Derived.Test.YtalkllfgedacoaaGreatDoorD6
import Derived.Test.YtalkllfgedacoaaGreatDoorD30
import Derived.Test.YtalkllfgedacoaaGreatDoorD31
import Derived.Test.YtalkllfgedacoaaGreatDoorD32
namespace Go.Proofs.YtalkllfgedacoaaGreatDoor
open Go.RowKit Go.Sort

def RSay (x : Ev) (n : Nat) (w : World) (e : Ending) (w' : World) : Prop := (∃ s : ByteArray, e = .returned (.tuple #[.string s, .bool (okE x)]) ∧ (okE x = true → s = evS x n)) ∧ Below w.heap.size w w'
theorem okD_low {x : Ev} (h : ¬ (0 ≤ x.thread ∧ x.thread ≤ 63)) : okE x = false := by unfold okE; rw [decide_eq_false h]; rfl
theorem okD_pick {x : Ev} (h : 0 ≤ x.thread ∧ x.thread ≤ 63) (hk : x.kind = 1) : okE x = decide (x = evPick x.thread) := by unfold okE; rw [decide_eq_true h, if_pos hk]; rfl
theorem okD_call {x : Ev} (h : 0 ≤ x.thread ∧ x.thread ≤ 63) (hk : x.kind = 2) : okE x = decide (sayR x.rq ≠ ⟨#[]⟩ ∧ x = evCall x.thread x.rq) := by unfold okE; rw [decide_eq_true h, if_neg (by rw [hk]; decide), if_pos hk]; rfl
theorem okD_pump {x : Ev} (h : 0 ≤ x.thread ∧ x.thread ≤ 63) (hk : x.kind = 3) : okE x = (startQ x.inn x.outs && decide (x = evPump x.thread x.inn x.outs)) := by unfold okE; rw [decide_eq_true h, if_neg (by rw [hk]; decide), if_neg (by rw [hk]; decide), if_pos hk]; rfl
theorem okD_else {x : Ev} (h1 : ¬ x.kind = 1) (h2 : ¬ x.kind = 2) (h3 : ¬ x.kind = 3) : okE x = false := by unfold okE; rw [if_neg h1, if_neg h2, if_neg h3, Bool.and_false]

set_option maxHeartbeats 8000000 in
set_option maxRecDepth 100000 in
theorem rsay_low (a : EvR) (x : Ev) (n : Nat) (w : World) (_hn : n ≤ 2000000) (ha : EvAt w a x) (hi : EvIn x) (hs : EvSm x) (hk : ¬ (0 ≤ x.thread ∧ x.thread ≤ 63)) : Calls Tryz.prog 62 #[evV a, .int .i64 n] w fun e w' => RSay x n w e w' := by
  have HV := Lib.hid (okD_low hk)
  have HSM0 := Lib.hid (ha.small hs)
  have HAT := Lib.hid ha
  have h1 := ha.kind
  have h2 := ha.thread
  have h3 := ha.inn
  have HI := Lib.hid hi
  have hit := hi.thread
  obtain ⟨ek, et, ⟨qk, qa, qv, qd, QA, qn, qc⟩, ei, OA, on, oc⟩ := a
  simp only at h1 h2 h3
  rw [← h2] at hit
  have HH1 := Lib.hid h1
  have HH2 := Lib.hid h2
  have HH3 := Lib.hid h3
  clear ha hi hs
  have HX : RowKit.Hid (Blk (w.alloc (.cells #[.int .i64 ek, .int .i64 et, .int .i64 qk, .int .i64 qa, .int .i64 qv, .bool qd, .slice QA qn qc, .int .i64 ei, .slice OA on oc] 74)) w.heap.size 74 [.int .i64 ek, .int .i64 et, .int .i64 qk, .int .i64 qa, .int .i64 qv, .bool qd, .slice QA qn qc, .int .i64 ei, .slice OA on oc]) := Lib.hid (Blk.new w _ _)
  have HB0 := Lib.hid ((Below.refl w.heap.size w).alloc (Nat.le_refl _) (.cells #[.int .i64 ek, .int .i64 et, .int .i64 qk, .int .i64 qa, .int .i64 qv, .bool qd, .slice QA qn qc, .int .i64 ei, .slice OA on oc] 74))
  have HIT := Lib.hid (fun W (h : Below w.heap.size w W) => rItoa_any et hit W)
  have hz := itoaS_size hit
  rw [← h2] at hk
  generalize itoaS et = z at *
  have d0 : ¬ 9223372036854775807 < 1 + z.size := by omega
  clear hz h1 h2 h3
  by_cases hlo : et < 0
  · clear hk
    go_enter Tryz.func62, Tryz.ntmps62
    go_upto_region 1 with (fail)
    generalize w.alloc (.cells #[.int .i64 ek, .int .i64 et, .int .i64 qk, .int .i64 qa, .int .i64 qv, .bool qd, .slice QA qn qc, .int .i64 ei, .slice OA on oc] 74) = W0 at *
    have y0 := HX.out.cell (i := 0) rfl
    have y1 := HX.out.cell (i := 1) rfl
    have hgl := HX.out.lt
    go_upto_region 2 with (go_at_call 68; refine (HIT.out _ HB0.out).mono ?_; rintro er w1 ⟨rfl, hb1⟩; have HB1 := Lib.hid (HB0.out.trans (hb1.mono HB0.out.size)); have HX1 := Lib.hid (HX.out.below hb1 HX.out.lt); clear hb1)
    have y0 := HX1.out.cell (i := 0) rfl
    have y1 := HX1.out.cell (i := 1) rfl
    have y2 := HX1.out.cell (i := 2) rfl
    have y3 := HX1.out.cell (i := 3) rfl
    have y4 := HX1.out.cell (i := 4) rfl
    have y5 := HX1.out.cell (i := 5) rfl
    have y6 := HX1.out.cell (i := 6) rfl
    have y7 := HX1.out.cell (i := 7) rfl
    have y8 := HX1.out.cell (i := 8) rfl
    have hg1 := HX1.out.lt
    go_wp2_with fail
    go_ret2
    exact ⟨⟨_, by rw [HV.out]; rfl, fun h => by rw [HV.out] at h; cases h⟩, HB1.out⟩
  · have hhi : (63 : Int) < et := by omega
    clear hk
    go_enter Tryz.func62, Tryz.ntmps62
    go_upto_region 1 with (fail)
    generalize w.alloc (.cells #[.int .i64 ek, .int .i64 et, .int .i64 qk, .int .i64 qa, .int .i64 qv, .bool qd, .slice QA qn qc, .int .i64 ei, .slice OA on oc] 74) = W0 at *
    have y0 := HX.out.cell (i := 0) rfl
    have y1 := HX.out.cell (i := 1) rfl
    have hgl := HX.out.lt
    go_upto_region 2 with (go_at_call 68; refine (HIT.out _ HB0.out).mono ?_; rintro er w1 ⟨rfl, hb1⟩; have HB1 := Lib.hid (HB0.out.trans (hb1.mono HB0.out.size)); have HX1 := Lib.hid (HX.out.below hb1 HX.out.lt); clear hb1)
    have y0 := HX1.out.cell (i := 0) rfl
    have y1 := HX1.out.cell (i := 1) rfl
    have y2 := HX1.out.cell (i := 2) rfl
    have y3 := HX1.out.cell (i := 3) rfl
    have y4 := HX1.out.cell (i := 4) rfl
    have y5 := HX1.out.cell (i := 5) rfl
    have y6 := HX1.out.cell (i := 6) rfl
    have y7 := HX1.out.cell (i := 7) rfl
    have y8 := HX1.out.cell (i := 8) rfl
    have hg1 := HX1.out.lt
    go_wp2_with fail
    go_ret2
    exact ⟨⟨_, by rw [HV.out]; rfl, fun h => by rw [HV.out] at h; cases h⟩, HB1.out⟩

set_option maxHeartbeats 8000000 in
set_option maxRecDepth 100000 in
theorem rsay_else (a : EvR) (x : Ev) (n : Nat) (w : World) (_hn : n ≤ 2000000) (ha : EvAt w a x) (hi : EvIn x) (hs : EvSm x) (ht : 0 ≤ x.thread ∧ x.thread ≤ 63) (hk1 : ¬ x.kind = 1) (hk2 : ¬ x.kind = 2) (hk3 : ¬ x.kind = 3) : Calls Tryz.prog 62 #[evV a, .int .i64 n] w fun e w' => RSay x n w e w' := by
  have HV := Lib.hid (okD_else hk1 hk2 hk3)
  have HSM0 := Lib.hid (ha.small hs)
  have HAT := Lib.hid ha
  have h1 := ha.kind
  have h2 := ha.thread
  have h3 := ha.inn
  have HI := Lib.hid hi
  have hit := hi.thread
  obtain ⟨ek, et, ⟨qk, qa, qv, qd, QA, qn, qc⟩, ei, OA, on, oc⟩ := a
  simp only at h1 h2 h3
  rw [← h2] at hit
  have HH1 := Lib.hid h1
  have HH2 := Lib.hid h2
  have HH3 := Lib.hid h3
  clear ha hi hs
  have HX : RowKit.Hid (Blk (w.alloc (.cells #[.int .i64 ek, .int .i64 et, .int .i64 qk, .int .i64 qa, .int .i64 qv, .bool qd, .slice QA qn qc, .int .i64 ei, .slice OA on oc] 74)) w.heap.size 74 [.int .i64 ek, .int .i64 et, .int .i64 qk, .int .i64 qa, .int .i64 qv, .bool qd, .slice QA qn qc, .int .i64 ei, .slice OA on oc]) := Lib.hid (Blk.new w _ _)
  have HB0 := Lib.hid ((Below.refl w.heap.size w).alloc (Nat.le_refl _) (.cells #[.int .i64 ek, .int .i64 et, .int .i64 qk, .int .i64 qa, .int .i64 qv, .bool qd, .slice QA qn qc, .int .i64 ei, .slice OA on oc] 74))
  have HIT := Lib.hid (fun W (h : Below w.heap.size w W) => rItoa_any et hit W)
  have hz := itoaS_size hit
  rw [← h2] at ht
  rw [← h1] at hk1 hk2 hk3
  have hlo : ¬ et < 0 := by omega
  have hhi : ¬ (63 : Int) < et := by omega
  have e1 : (ek == 1) = false := beq_eq_false_iff_ne.2 hk1
  have e2 : (ek == 2) = false := beq_eq_false_iff_ne.2 hk2
  have e3 : (ek == 3) = false := beq_eq_false_iff_ne.2 hk3
  generalize itoaS et = z at *
  have d0 : ¬ 9223372036854775807 < 1 + z.size := by omega
  clear hz h1 h2 h3 ht hk1 hk2 hk3
  go_enter Tryz.func62, Tryz.ntmps62
  go_upto_region 1 with (fail)
  generalize w.alloc (.cells #[.int .i64 ek, .int .i64 et, .int .i64 qk, .int .i64 qa, .int .i64 qv, .bool qd, .slice QA qn qc, .int .i64 ei, .slice OA on oc] 74) = W0 at *
  have y0 := HX.out.cell (i := 0) rfl
  have y1 := HX.out.cell (i := 1) rfl
  have hgl := HX.out.lt
  go_upto_region 2 with (go_at_call 68; refine (HIT.out _ HB0.out).mono ?_; rintro er w1 ⟨rfl, hb1⟩; have HB1 := Lib.hid (HB0.out.trans (hb1.mono HB0.out.size)); have HX1 := Lib.hid (HX.out.below hb1 HX.out.lt); clear hb1)
  have y0 := HX1.out.cell (i := 0) rfl
  have y1 := HX1.out.cell (i := 1) rfl
  have y2 := HX1.out.cell (i := 2) rfl
  have y3 := HX1.out.cell (i := 3) rfl
  have y4 := HX1.out.cell (i := 4) rfl
  have y5 := HX1.out.cell (i := 5) rfl
  have y6 := HX1.out.cell (i := 6) rfl
  have y7 := HX1.out.cell (i := 7) rfl
  have y8 := HX1.out.cell (i := 8) rfl
  have hg1 := HX1.out.lt
  go_wp2_with fail
  go_ret2
  exact ⟨⟨_, by rw [HV.out]; rfl, fun h => by rw [HV.out] at h; cases h⟩, HB1.out⟩

set_option maxHeartbeats 8000000 in
set_option maxRecDepth 100000 in
theorem rsay_pick (a : EvR) (x : Ev) (n : Nat) (w : World) (hn : n ≤ 2000000) (ha : EvAt w a x) (hi : EvIn x) (hs : EvSm x) (ht : 0 ≤ x.thread ∧ x.thread ≤ 63) (hk : x.kind = 1) : Calls Tryz.prog 62 #[evV a, .int .i64 n] w fun e w' => RSay x n w e w' := by
  have HV := Lib.hid (okD_pick ht hk)
  have HP1 := Lib.hid (evS_pick1 (e := x) (n := n) hk)
  have HPN := Lib.hid (evS_pickN (e := x) (n := n) hk)
  have HSM0 := Lib.hid (ha.small hs)
  have HAT := Lib.hid ha
  have h1 := ha.kind
  have h2 := ha.thread
  have h3 := ha.inn
  have HI := Lib.hid hi
  have hit := hi.thread
  obtain ⟨ek, et, ⟨qk, qa, qv, qd, QA, qn, qc⟩, ei, OA, on, oc⟩ := a
  simp only at h1 h2 h3
  rw [← h2] at hit
  have HH1 := Lib.hid h1
  have HH2 := Lib.hid h2
  have HH3 := Lib.hid h3
  clear ha hi hs
  have HX : RowKit.Hid (Blk (w.alloc (.cells #[.int .i64 ek, .int .i64 et, .int .i64 qk, .int .i64 qa, .int .i64 qv, .bool qd, .slice QA qn qc, .int .i64 ei, .slice OA on oc] 74)) w.heap.size 74 [.int .i64 ek, .int .i64 et, .int .i64 qk, .int .i64 qa, .int .i64 qv, .bool qd, .slice QA qn qc, .int .i64 ei, .slice OA on oc]) := Lib.hid (Blk.new w _ _)
  have HB0 := Lib.hid ((Below.refl w.heap.size w).alloc (Nat.le_refl _) (.cells #[.int .i64 ek, .int .i64 et, .int .i64 qk, .int .i64 qa, .int .i64 qv, .bool qd, .slice QA qn qc, .int .i64 ei, .slice OA on oc] 74))
  have HIT := Lib.hid (fun W (h : Below w.heap.size w W) => rItoa_any et hit W)
  have hz := itoaS_size hit
  have HPL := Lib.hid (fun W (h : Below w.heap.size w W) => rplain_any ⟨ek, et, ⟨qk, qa, qv, qd, QA, qn, qc⟩, ei, OA, on, oc⟩ x W (HAT.out.below h) HSM0.out)
  unfold evV at HPL
  simp only at HPL
  rw [decide_eq_true hk, Bool.true_and] at HPL
  have hni : In64 (n : Int) := ⟨by omega, by omega⟩
  have HIN := Lib.hid (fun W (h : Below w.heap.size w W) => rItoa_any (n : Int) hni W)
  have hzn := itoaS_size hni
  rw [← h2] at ht HP1 HPN
  unfold w_pickS at HP1 HPN
  rw [h1.trans hk] at HX HB0 HPL ⊢
  have hlo : ¬ et < 0 := by omega
  have hhi : ¬ (63 : Int) < et := by omega
  generalize decide (x = evPick x.thread) = dv at *
  generalize itoaS et = z at *
  generalize itoaS (n : Int) = zn at *
  have d0 : ¬ 9223372036854775807 < 1 + z.size := by omega
  have d1 : ¬ 9223372036854775807 < 1 + z.size + 1 := by omega
  have d2 : ¬ 9223372036854775807 < 1 + z.size + 1 + zn.size := by omega
  have d3 : ¬ 9223372036854775807 < 4 + (1 + z.size + 1 + zn.size) := by omega
  have d4 : ¬ 9223372036854775807 < 4 + (1 + z.size) := by omega
  clear hz hzn h1 h2 h3 ht hk
  by_cases hn1 : 1 < n
  · have q1 : (1 : Int) < (n : Int) := by omega
    have HVE := Lib.hid (HPN.out hn1)
    clear HP1 HPN
    go_enter Tryz.func62, Tryz.ntmps62
    go_upto_region 1 with (fail)
    generalize w.alloc (.cells #[.int .i64 1, .int .i64 et, .int .i64 qk, .int .i64 qa, .int .i64 qv, .bool qd, .slice QA qn qc, .int .i64 ei, .slice OA on oc] 74) = W0 at *
    have y0 := HX.out.cell (i := 0) rfl
    have y1 := HX.out.cell (i := 1) rfl
    have hgl := HX.out.lt
    go_upto_region 2 with (go_at_call 68; refine (HIT.out _ HB0.out).mono ?_; rintro er w1 ⟨rfl, hb1⟩; have HB1 := Lib.hid (HB0.out.trans (hb1.mono HB0.out.size)); have HX1 := Lib.hid (HX.out.below hb1 HX.out.lt); clear hb1)
    have y0 := HX1.out.cell (i := 0) rfl
    have y1 := HX1.out.cell (i := 1) rfl
    have y2 := HX1.out.cell (i := 2) rfl
    have y3 := HX1.out.cell (i := 3) rfl
    have y4 := HX1.out.cell (i := 4) rfl
    have y5 := HX1.out.cell (i := 5) rfl
    have y6 := HX1.out.cell (i := 6) rfl
    have y7 := HX1.out.cell (i := 7) rfl
    have y8 := HX1.out.cell (i := 8) rfl
    have hg1 := HX1.out.lt
    go_wp2_with (first
      | (go_at_call 68; refine (HIN.out _ HB1.out).mono ?_; rintro er w2 ⟨rfl, hb2⟩; have HB2 := Lib.hid (HB1.out.trans (hb2.mono HB1.out.size)); have HX2 := Lib.hid (HX1.out.below hb2 HX1.out.lt); have v0 := HX2.out.cell (i := 0) rfl; have v1 := HX2.out.cell (i := 1) rfl; have v2 := HX2.out.cell (i := 2) rfl; have v3 := HX2.out.cell (i := 3) rfl; have v4 := HX2.out.cell (i := 4) rfl; have v5 := HX2.out.cell (i := 5) rfl; have v6 := HX2.out.cell (i := 6) rfl; have v7 := HX2.out.cell (i := 7) rfl; have v8 := HX2.out.cell (i := 8) rfl; have hg2 := HX2.out.lt; clear hb2)
      | (go_at_call 96; refine (HPL.out _ HB2.out).mono ?_; rintro er w3 ⟨rfl, hb3⟩; have HB3 := Lib.hid (HB2.out.trans (hb3.mono HB2.out.size)); clear hb3))
    go_ret2
    exact ⟨⟨_, by rw [HV.out]; rfl, fun _ => by rw [HVE.out]; simp only [ByteArray.append_assoc]⟩, HB3.out⟩
  · have q1 : ¬ (1 : Int) < (n : Int) := by omega
    have HVE := Lib.hid (HP1.out hn1)
    clear HP1 HPN
    go_enter Tryz.func62, Tryz.ntmps62
    go_upto_region 1 with (fail)
    generalize w.alloc (.cells #[.int .i64 1, .int .i64 et, .int .i64 qk, .int .i64 qa, .int .i64 qv, .bool qd, .slice QA qn qc, .int .i64 ei, .slice OA on oc] 74) = W0 at *
    have y0 := HX.out.cell (i := 0) rfl
    have y1 := HX.out.cell (i := 1) rfl
    have hgl := HX.out.lt
    go_upto_region 2 with (go_at_call 68; refine (HIT.out _ HB0.out).mono ?_; rintro er w1 ⟨rfl, hb1⟩; have HB1 := Lib.hid (HB0.out.trans (hb1.mono HB0.out.size)); have HX1 := Lib.hid (HX.out.below hb1 HX.out.lt); clear hb1)
    have y0 := HX1.out.cell (i := 0) rfl
    have y1 := HX1.out.cell (i := 1) rfl
    have y2 := HX1.out.cell (i := 2) rfl
    have y3 := HX1.out.cell (i := 3) rfl
    have y4 := HX1.out.cell (i := 4) rfl
    have y5 := HX1.out.cell (i := 5) rfl
    have y6 := HX1.out.cell (i := 6) rfl
    have y7 := HX1.out.cell (i := 7) rfl
    have y8 := HX1.out.cell (i := 8) rfl
    have hg1 := HX1.out.lt
    go_wp2_with (go_at_call 96; refine (HPL.out _ HB1.out).mono ?_; rintro er w3 ⟨rfl, hb3⟩; have HB3 := Lib.hid (HB1.out.trans (hb3.mono HB1.out.size)); clear hb3)
    go_ret2
    exact ⟨⟨_, by rw [HV.out]; rfl, fun _ => by rw [HVE.out]⟩, HB3.out⟩

set_option maxHeartbeats 8000000 in
set_option maxRecDepth 100000 in
theorem rsay_call (a : EvR) (x : Ev) (n : Nat) (w : World) (_hn : n ≤ 2000000) (ha : EvAt w a x) (hi : EvIn x) (hs : EvSm x) (ht : 0 ≤ x.thread ∧ x.thread ≤ 63) (hk : x.kind = 2) : Calls Tryz.prog 62 #[evV a, .int .i64 n] w fun e w' => RSay x n w e w' := by
  have HV := Lib.hid (okD_call ht hk)
  have HVE := Lib.hid (evS_callE (e := x) (n := n) hk)
  have HSM0 := Lib.hid (ha.small hs)
  have HAT := Lib.hid ha
  have h1 := ha.kind
  have h2 := ha.thread
  have h3 := ha.inn
  have HI := Lib.hid hi
  have hit := hi.thread
  obtain ⟨ek, et, ⟨qk, qa, qv, qd, QA, qn, qc⟩, ei, OA, on, oc⟩ := a
  simp only at h1 h2 h3
  rw [← h2] at hit
  have HH1 := Lib.hid h1
  have HH2 := Lib.hid h2
  have HH3 := Lib.hid h3
  clear ha hi hs
  have HX : RowKit.Hid (Blk (w.alloc (.cells #[.int .i64 ek, .int .i64 et, .int .i64 qk, .int .i64 qa, .int .i64 qv, .bool qd, .slice QA qn qc, .int .i64 ei, .slice OA on oc] 74)) w.heap.size 74 [.int .i64 ek, .int .i64 et, .int .i64 qk, .int .i64 qa, .int .i64 qv, .bool qd, .slice QA qn qc, .int .i64 ei, .slice OA on oc]) := Lib.hid (Blk.new w _ _)
  have HB0 := Lib.hid ((Below.refl w.heap.size w).alloc (Nat.le_refl _) (.cells #[.int .i64 ek, .int .i64 et, .int .i64 qk, .int .i64 qa, .int .i64 qv, .bool qd, .slice QA qn qc, .int .i64 ei, .slice OA on oc] 74))
  have HIT := Lib.hid (fun W (h : Below w.heap.size w W) => rItoa_any et hit W)
  have hz := itoaS_size hit
  have hcq : sayR x.rq = callS ⟨qk, qa, qv, qd, QA, qn, qc⟩ x.rq.cs := by
    rw [sayR_eq _ _ HAT.out.req.len.symm]
    have g1 := HAT.out.qk; have g2 := HAT.out.qa; have g3 := HAT.out.qv; have g4 := HAT.out.qd
    simp only at g1 g2 g3 g4
    rw [g1, g2, g3, g4]
  have HSY : RowKit.Hid (∀ W, Below w.heap.size w W → Calls Tryz.prog 32 #[reqV ⟨qk, qa, qv, qd, QA, qn, qc⟩] W fun e' w' => e' = .returned (.string (sayR x.rq)) ∧ Below W.heap.size W w') := Lib.hid (fun W h => by
    have hc := HI.out.call HAT.out
    have hr := HAT.out.req.below h
    have hl := hr.len
    simp only at hc hr hl
    rw [hcq]
    exact rSay24_any ⟨qk, qa, qv, qd, QA, qn, qc⟩ x.rq.cs W hr (by simp only; rw [← hl]; exact HI.out.ncs) hc)
  have hcz : (sayR x.rq).size ≤ 60000000 := by
    have h1 := callS_size (HI.out.call HAT.out)
    have h2 := HI.out.ncs
    simp only at h1
    rw [hcq]
    omega
  have HSE := Lib.hid (fun W (h : Below w.heap.size w W) => revSame_any ⟨ek, et, ⟨qk, qa, qv, qd, QA, qn, qc⟩, ei, OA, on, oc⟩ ⟨2, et, ⟨qk, qa, qv, qd, QA, qn, qc⟩, 0, none, 0, 0⟩ x (evCall x.thread x.rq) W (HAT.out.below h) ⟨rfl, HH2.out, HAT.out.qk, HAT.out.qa, HAT.out.qv, HAT.out.qd, HAT.out.req.below h, rfl, rfl, .inl rfl, fun _ => ⟨rfl, rfl⟩⟩ HSM0.out ⟨HSM0.out.n, Nat.zero_le _⟩)
  unfold evV at HSE
  unfold reqV at HSY
  simp only at HSE
  rw [← h2] at ht HVE
  unfold w_callS at HVE
  rw [h1.trans hk] at HX HB0 HSE ⊢
  have hlo : ¬ et < 0 := by omega
  have hhi : ¬ (63 : Int) < et := by omega
  have HVD : RowKit.Hid (okE x = (decide (sayR x.rq ≠ ⟨#[]⟩) && decide (x = evCall x.thread x.rq))) := Lib.hid (by rw [HV.out, Bool.decide_and])
  clear hcq HV
  generalize decide (x = evCall x.thread x.rq) = dv at *
  generalize sayR x.rq = cs at *
  generalize itoaS et = z at *
  have d0 : ¬ 9223372036854775807 < 1 + z.size := by omega
  have d1 : ¬ 9223372036854775807 < 4 + (1 + z.size) := by omega
  have d2 : ¬ 9223372036854775807 < 4 + (1 + z.size) + 1 := by omega
  have d3 : ¬ 9223372036854775807 < 4 + (1 + z.size) + 1 + cs.size := by omega
  clear hz hcz h1 h2 h3 ht hk
  by_cases hcs : cs = ⟨#[]⟩
  · subst hcs
    have HV1 : RowKit.Hid (okE x = false) := Lib.hid (by rw [HVD.out, decide_eq_false (fun h => h rfl)]; rfl)
    go_enter Tryz.func62, Tryz.ntmps62
    go_upto_region 1 with (fail)
    generalize w.alloc (.cells #[.int .i64 2, .int .i64 et, .int .i64 qk, .int .i64 qa, .int .i64 qv, .bool qd, .slice QA qn qc, .int .i64 ei, .slice OA on oc] 74) = W0 at *
    have y0 := HX.out.cell (i := 0) rfl
    have y1 := HX.out.cell (i := 1) rfl
    have hgl := HX.out.lt
    go_upto_region 2 with (go_at_call 68; refine (HIT.out _ HB0.out).mono ?_; rintro er w1 ⟨rfl, hb1⟩; have HB1 := Lib.hid (HB0.out.trans (hb1.mono HB0.out.size)); have HX1 := Lib.hid (HX.out.below hb1 HX.out.lt); clear hb1)
    have y0 := HX1.out.cell (i := 0) rfl
    have y1 := HX1.out.cell (i := 1) rfl
    have y2 := HX1.out.cell (i := 2) rfl
    have y3 := HX1.out.cell (i := 3) rfl
    have y4 := HX1.out.cell (i := 4) rfl
    have y5 := HX1.out.cell (i := 5) rfl
    have y6 := HX1.out.cell (i := 6) rfl
    have y7 := HX1.out.cell (i := 7) rfl
    have y8 := HX1.out.cell (i := 8) rfl
    have hg1 := HX1.out.lt
    go_wp2_with (go_at_call 32; refine (HSY.out _ HB1.out).mono ?_; rintro er w2 ⟨rfl, hb2⟩; have HB2 := Lib.hid (HB1.out.trans (hb2.mono HB1.out.size)); clear hb2)
    go_ret2
    exact ⟨⟨_, by rw [HV1.out]; rfl, fun h => by rw [HV1.out] at h; cases h⟩, HB2.out⟩
  · have HV1 : RowKit.Hid (okE x = dv) := Lib.hid (by rw [HVD.out, decide_eq_true hcs]; rfl)
    have e0 : cs.toList.isEmpty = false := by
      cases hxl : cs.toList with
      | nil =>
        exfalso
        refine hcs (ByteArray.ext (Array.toList_inj.1 ?_))
        rw [← ByteArray.toList_eq, hxl]
      | cons a r => rfl
    clear hcs HVD
    go_enter Tryz.func62, Tryz.ntmps62
    go_upto_region 1 with (fail)
    generalize w.alloc (.cells #[.int .i64 2, .int .i64 et, .int .i64 qk, .int .i64 qa, .int .i64 qv, .bool qd, .slice QA qn qc, .int .i64 ei, .slice OA on oc] 74) = W0 at *
    have y0 := HX.out.cell (i := 0) rfl
    have y1 := HX.out.cell (i := 1) rfl
    have hgl := HX.out.lt
    go_upto_region 2 with (go_at_call 68; refine (HIT.out _ HB0.out).mono ?_; rintro er w1 ⟨rfl, hb1⟩; have HB1 := Lib.hid (HB0.out.trans (hb1.mono HB0.out.size)); have HX1 := Lib.hid (HX.out.below hb1 HX.out.lt); clear hb1)
    have y0 := HX1.out.cell (i := 0) rfl
    have y1 := HX1.out.cell (i := 1) rfl
    have y2 := HX1.out.cell (i := 2) rfl
    have y3 := HX1.out.cell (i := 3) rfl
    have y4 := HX1.out.cell (i := 4) rfl
    have y5 := HX1.out.cell (i := 5) rfl
    have y6 := HX1.out.cell (i := 6) rfl
    have y7 := HX1.out.cell (i := 7) rfl
    have y8 := HX1.out.cell (i := 8) rfl
    have hg1 := HX1.out.lt
    go_wp2_with (first
      | (go_at_call 32; refine (HSY.out _ HB1.out).mono ?_; rintro er w2 ⟨rfl, hb2⟩; have HB2 := Lib.hid (HB1.out.trans (hb2.mono HB1.out.size)); have HX2 := Lib.hid (HX1.out.below hb2 HX1.out.lt); have v0 := HX2.out.cell (i := 0) rfl; have v1 := HX2.out.cell (i := 1) rfl; have v2 := HX2.out.cell (i := 2) rfl; have v3 := HX2.out.cell (i := 3) rfl; have v4 := HX2.out.cell (i := 4) rfl; have v5 := HX2.out.cell (i := 5) rfl; have v6 := HX2.out.cell (i := 6) rfl; have v7 := HX2.out.cell (i := 7) rfl; have v8 := HX2.out.cell (i := 8) rfl; have hg2 := HX2.out.lt; clear hb2)
      | (go_at_call 61; refine (HSE.out _ HB2.out).mono ?_; rintro er w3 ⟨rfl, hb3⟩; have HB3 := Lib.hid (HB2.out.trans (hb3.mono HB2.out.size)); clear hb3))
    go_ret2
    exact ⟨⟨_, by rw [HV1.out]; rfl, fun _ => by rw [HVE.out]⟩, HB3.out⟩

set_option maxHeartbeats 8000000 in
set_option maxRecDepth 100000 in
theorem rsay_pump (a : EvR) (x : Ev) (n : Nat) (w : World) (_hn : n ≤ 2000000) (ha : EvAt w a x) (hi : EvIn x) (hs : EvSm x) (ht : 0 ≤ x.thread ∧ x.thread ≤ 63) (hk : x.kind = 3) : Calls Tryz.prog 62 #[evV a, .int .i64 n] w fun e w' => RSay x n w e w' := by
  have HV := Lib.hid (okD_pump ht hk)
  have HVE0 := Lib.hid (pumpS_all (e := x) (n := n) (by rw [hk]; decide) (by rw [hk]; decide))
  have HP0 := Lib.hid (pumpS_zero x)
  have HPS := Lib.hid (fun k => pumpS_step (e := x) (k := k))
  have HPZ := Lib.hid (pumpS_size hi.thread hi.inn hi.outs)
  have HOI := Lib.hid hi.outs
  have hin := hi.inn
  have HSM0 := Lib.hid (ha.small hs)
  have HAT := Lib.hid ha
  have h1 := ha.kind
  have h2 := ha.thread
  have h3 := ha.inn
  have HI := Lib.hid hi
  have hit := hi.thread
  obtain ⟨ek, et, ⟨qk, qa, qv, qd, QA, qn, qc⟩, ei, OA, on, oc⟩ := a
  simp only at h1 h2 h3
  rw [← h2] at hit
  have HH1 := Lib.hid h1
  have HH2 := Lib.hid h2
  have HH3 := Lib.hid h3
  clear ha hi hs
  have HX : RowKit.Hid (Blk (w.alloc (.cells #[.int .i64 ek, .int .i64 et, .int .i64 qk, .int .i64 qa, .int .i64 qv, .bool qd, .slice QA qn qc, .int .i64 ei, .slice OA on oc] 74)) w.heap.size 74 [.int .i64 ek, .int .i64 et, .int .i64 qk, .int .i64 qa, .int .i64 qv, .bool qd, .slice QA qn qc, .int .i64 ei, .slice OA on oc]) := Lib.hid (Blk.new w _ _)
  have HB0 := Lib.hid ((Below.refl w.heap.size w).alloc (Nat.le_refl _) (.cells #[.int .i64 ek, .int .i64 et, .int .i64 qk, .int .i64 qa, .int .i64 qv, .bool qd, .slice QA qn qc, .int .i64 ei, .slice OA on oc] 74))
  have HIT := Lib.hid (fun W (h : Below w.heap.size w W) => rItoa_any et hit W)
  have hz := itoaS_size hit
  rw [← h3] at hin
  have HON : RowKit.Hid (on ≤ 1048576) := Lib.hid HSM0.out.on
  have hon := HON.out
  have HIN := Lib.hid (fun W (h : Below w.heap.size w W) => rItoa_any ei hin W)
  have hz2 := itoaS_size hin
  have HOR := Lib.hid HAT.out.rd
  have HOL : RowKit.Hid (x.outs.length = on) := Lib.hid HAT.out.len
  have HST := Lib.hid (fun W (h : Below w.heap.size w W) => rStart_any ei OA on oc x.outs W HOL.out HON.out HAT.out.nil (HOR.out.below h))
  have HSE := Lib.hid (fun W (h : Below w.heap.size w W) => revSame_any ⟨ek, et, ⟨qk, qa, qv, qd, QA, qn, qc⟩, ei, OA, on, oc⟩ ⟨3, et, ⟨0, 0, 0, false, none, 0, 0⟩, ei, OA, on, oc⟩ x (evPump x.thread x.inn x.outs) W (HAT.out.below h) ⟨rfl, HH2.out, rfl, rfl, rfl, rfl, ⟨rfl, .inl rfl⟩, HH3.out, HOL.out, HOR.out.below h, HAT.out.nil⟩ HSM0.out ⟨Nat.zero_le _, HON.out⟩)
  unfold evV at HSE
  simp only at HSE
  have HVE : RowKit.Hid (evS x n = pumpS x on) := Lib.hid (by rw [HVE0.out, HOL.out])
  rw [HOL.out] at HPZ
  rw [← h2] at ht HP0
  rw [← h3] at HP0
  have HVD : RowKit.Hid (okE x = (startQ ei x.outs && decide (x = evPump x.thread x.inn x.outs))) := Lib.hid (by rw [HV.out, h3])
  clear HV HVE0
  rw [h1.trans hk] at HX HB0 HSE ⊢
  have hlo : ¬ et < 0 := by omega
  have hhi : ¬ (63 : Int) < et := by omega
  generalize decide (x = evPump x.thread x.inn x.outs) = dv at *
  generalize startQ ei x.outs = sq at *
  generalize itoaS et = z at *
  generalize itoaS ei = z2 at *
  unfold w_pumpS at HP0
  have d0 : ¬ 9223372036854775807 < 1 + z.size := by omega
  have d1 : ¬ 9223372036854775807 < 4 + (1 + z.size) := by omega
  have d2 : ¬ 9223372036854775807 < 4 + (1 + z.size) + 1 := by omega
  have d3 : ¬ 9223372036854775807 < 4 + (1 + z.size) + 1 + z2.size := by omega
  clear hz hz2 h1 h2 h3 ht hk
  cases sq with
  | false =>
    have HV1 : RowKit.Hid (okE x = false) := Lib.hid (by rw [HVD.out]; rfl)
    go_enter Tryz.func62, Tryz.ntmps62
    go_upto_region 1 with (fail)
    generalize w.alloc (.cells #[.int .i64 3, .int .i64 et, .int .i64 qk, .int .i64 qa, .int .i64 qv, .bool qd, .slice QA qn qc, .int .i64 ei, .slice OA on oc] 74) = W0 at *
    have y0 := HX.out.cell (i := 0) rfl
    have y1 := HX.out.cell (i := 1) rfl
    have hgl := HX.out.lt
    go_upto_region 2 with (go_at_call 68; refine (HIT.out _ HB0.out).mono ?_; rintro er w1 ⟨rfl, hb1⟩; have HB1 := Lib.hid (HB0.out.trans (hb1.mono HB0.out.size)); have HX1 := Lib.hid (HX.out.below hb1 HX.out.lt); clear hb1)
    have y0 := HX1.out.cell (i := 0) rfl
    have y1 := HX1.out.cell (i := 1) rfl
    have y2 := HX1.out.cell (i := 2) rfl
    have y3 := HX1.out.cell (i := 3) rfl
    have y4 := HX1.out.cell (i := 4) rfl
    have y5 := HX1.out.cell (i := 5) rfl
    have y6 := HX1.out.cell (i := 6) rfl
    have y7 := HX1.out.cell (i := 7) rfl
    have y8 := HX1.out.cell (i := 8) rfl
    have hg1 := HX1.out.lt
    go_upto_region 14 with (go_at_call 88; refine (HST.out _ HB1.out).mono ?_; rintro er w2 ⟨⟨p, rfl⟩, hb2⟩; have HB2 := Lib.hid ((HB1.out.trans (hb2.mono HB1.out.size)).alloc (HB1.out.trans (hb2.mono HB1.out.size)).size (.cells #[.bool p.on, .bool p.shut, .bool p.over, .int .i64 p.inn, .slice p.A p.n p.c, .int .i64 p.at_, .int .i64 p.value] 142)); have HX2 := Lib.hid ((HX1.out.below hb2 HX1.out.lt).alloc (.cells #[.bool p.on, .bool p.shut, .bool p.over, .int .i64 p.inn, .slice p.A p.n p.c, .int .i64 p.at_, .int .i64 p.value] 142)); clear hb2)
    clear y0 y1 y2 y3 y4 y5 y6 y7 y8
    have v0 := HX2.out.cell (i := 0) rfl
    have v1 := HX2.out.cell (i := 1) rfl
    have v2 := HX2.out.cell (i := 2) rfl
    have v3 := HX2.out.cell (i := 3) rfl
    have v4 := HX2.out.cell (i := 4) rfl
    have v5 := HX2.out.cell (i := 5) rfl
    have v6 := HX2.out.cell (i := 6) rfl
    have v7 := HX2.out.cell (i := 7) rfl
    have v8 := HX2.out.cell (i := 8) rfl
    have hg2 := HX2.out.lt
    go_wp2_with (go_at_call 68; refine (HIN.out _ HB2.out).mono ?_; rintro er w3 ⟨rfl, hb3⟩; have HB3 := Lib.hid (HB2.out.trans (hb3.mono HB2.out.size)); have HX3 := Lib.hid (HX2.out.below hb3 HX2.out.lt); have u8 := HX3.out.cell (i := 8) rfl; have hg3 := HX3.out.lt; clear hb3)
    clear v0 v1 v2 v3 v4 v5 v6 v7 v8 u8
    go_loopg [81, 10] on (fun gg i v wr => ∃ k : Nat, k ≤ on ∧ gg = on - k ∧ i = .int .i64 k ∧ v = .string (pumpS x k) ∧ Below w3.heap.size w3 wr)
    case atStart => exact ⟨0, Nat.zero_le _, rfl, rfl, by rw [HP0.out], Below.refl _ _⟩
    case round =>
      obtain ⟨k, hk, hg, rfl, rfl, hb⟩ := hrel
      have HQ := Lib.hid hg
      have HW := Lib.hid hb
      have HWW := Lib.hid (HB3.out.trans (hb.mono HB3.out.size))
      clear hg hb
      by_cases hlt : k < on
      · obtain ⟨b2, o2, rfl, hb2, hc2⟩ := (HOR.out.below HWW.out).at_ (by rw [ints_length, HOL.out]; omega)
        have hkl : k < x.outs.length := by rw [HOL.out]; exact hlt
        have v0 := hc2 k _ (ints_at hkl)
        have q1 : (0 : Int) ≤ (k : Int) := by omega
        have q2 : (k : Int) < (on : Int) := by omega
        have HK := Lib.hid (HPS.out k hkl)
        have hkz := HPZ.out k (by omega)
        have hxi : In64 (x.outs.getD k 0) := HOI.out _ (by rw [List.getD, List.getElem?_eq_getElem hkl]; exact List.getElem_mem _)
        have HIX := Lib.hid (fun W (h : Below w.heap.size w W) => rItoa_any (x.outs.getD k 0) hxi W)
        have hz3 := itoaS_size hxi
        generalize x.outs.getD k 0 = y at *
        generalize itoaS y = z3 at *
        generalize pumpS x k = pk at *
        have f0 : ¬ 9223372036854775807 < pk.size + 1 := by omega
        have f1 : ¬ 9223372036854775807 < pk.size + 1 + z3.size := by omega
        clear hc2 hkl hkz hz3
        go_wp2_with (go_at_call 68; refine (HIX.out _ HWW.out).mono ?_; rintro er w4 ⟨rfl, hb4⟩; have HB4 := Lib.hid (HW.out.trans (hb4.mono HW.out.size)); clear hb4)
        go_roundg (on - (k + 1))
        case measure => rw [HQ.out]; omega
        case rel => exact ⟨k + 1, by omega, rfl, by go_num, by rw [HK.out], HB4.out⟩
      · obtain rfl : k = on := by omega
        have q2 : ¬ (k : Int) < (k : Int) := by omega
        have hx4 := HX3.out.below HW.out hg3
        have v0 := hx4.cell (i := 0) rfl
        have v1 := hx4.cell (i := 1) rfl
        have v2 := hx4.cell (i := 2) rfl
        have v3 := hx4.cell (i := 3) rfl
        have v4 := hx4.cell (i := 4) rfl
        have v5 := hx4.cell (i := 5) rfl
        have v6 := hx4.cell (i := 6) rfl
        have v7 := hx4.cell (i := 7) rfl
        have v8 := hx4.cell (i := 8) rfl
        have hg4 := hx4.lt
        clear hx4
        go_wp2_with fail
        go_ret2
        exact ⟨⟨_, by rw [HV1.out]; rfl, fun h => by rw [HV1.out] at h; cases h⟩, HWW.out⟩
  | true =>
    have HV1 : RowKit.Hid (okE x = dv) := Lib.hid (by rw [HVD.out]; rfl)
    go_enter Tryz.func62, Tryz.ntmps62
    go_upto_region 1 with (fail)
    generalize w.alloc (.cells #[.int .i64 3, .int .i64 et, .int .i64 qk, .int .i64 qa, .int .i64 qv, .bool qd, .slice QA qn qc, .int .i64 ei, .slice OA on oc] 74) = W0 at *
    have y0 := HX.out.cell (i := 0) rfl
    have y1 := HX.out.cell (i := 1) rfl
    have hgl := HX.out.lt
    go_upto_region 2 with (go_at_call 68; refine (HIT.out _ HB0.out).mono ?_; rintro er w1 ⟨rfl, hb1⟩; have HB1 := Lib.hid (HB0.out.trans (hb1.mono HB0.out.size)); have HX1 := Lib.hid (HX.out.below hb1 HX.out.lt); clear hb1)
    have y0 := HX1.out.cell (i := 0) rfl
    have y1 := HX1.out.cell (i := 1) rfl
    have y2 := HX1.out.cell (i := 2) rfl
    have y3 := HX1.out.cell (i := 3) rfl
    have y4 := HX1.out.cell (i := 4) rfl
    have y5 := HX1.out.cell (i := 5) rfl
    have y6 := HX1.out.cell (i := 6) rfl
    have y7 := HX1.out.cell (i := 7) rfl
    have y8 := HX1.out.cell (i := 8) rfl
    have hg1 := HX1.out.lt
    go_upto_region 14 with (go_at_call 88; refine (HST.out _ HB1.out).mono ?_; rintro er w2 ⟨⟨p, rfl⟩, hb2⟩; have HB2 := Lib.hid ((HB1.out.trans (hb2.mono HB1.out.size)).alloc (HB1.out.trans (hb2.mono HB1.out.size)).size (.cells #[.bool p.on, .bool p.shut, .bool p.over, .int .i64 p.inn, .slice p.A p.n p.c, .int .i64 p.at_, .int .i64 p.value] 142)); have HX2 := Lib.hid ((HX1.out.below hb2 HX1.out.lt).alloc (.cells #[.bool p.on, .bool p.shut, .bool p.over, .int .i64 p.inn, .slice p.A p.n p.c, .int .i64 p.at_, .int .i64 p.value] 142)); clear hb2)
    clear y0 y1 y2 y3 y4 y5 y6 y7 y8
    have v0 := HX2.out.cell (i := 0) rfl
    have v1 := HX2.out.cell (i := 1) rfl
    have v2 := HX2.out.cell (i := 2) rfl
    have v3 := HX2.out.cell (i := 3) rfl
    have v4 := HX2.out.cell (i := 4) rfl
    have v5 := HX2.out.cell (i := 5) rfl
    have v6 := HX2.out.cell (i := 6) rfl
    have v7 := HX2.out.cell (i := 7) rfl
    have v8 := HX2.out.cell (i := 8) rfl
    have hg2 := HX2.out.lt
    go_wp2_with (go_at_call 68; refine (HIN.out _ HB2.out).mono ?_; rintro er w3 ⟨rfl, hb3⟩; have HB3 := Lib.hid (HB2.out.trans (hb3.mono HB2.out.size)); have HX3 := Lib.hid (HX2.out.below hb3 HX2.out.lt); have u8 := HX3.out.cell (i := 8) rfl; have hg3 := HX3.out.lt; clear hb3)
    clear v0 v1 v2 v3 v4 v5 v6 v7 v8 u8
    go_loopg [81, 10] on (fun gg i v wr => ∃ k : Nat, k ≤ on ∧ gg = on - k ∧ i = .int .i64 k ∧ v = .string (pumpS x k) ∧ Below w3.heap.size w3 wr)
    case atStart => exact ⟨0, Nat.zero_le _, rfl, rfl, by rw [HP0.out], Below.refl _ _⟩
    case round =>
      obtain ⟨k, hk, hg, rfl, rfl, hb⟩ := hrel
      have HQ := Lib.hid hg
      have HW := Lib.hid hb
      have HWW := Lib.hid (HB3.out.trans (hb.mono HB3.out.size))
      clear hg hb
      by_cases hlt : k < on
      · obtain ⟨b2, o2, rfl, hb2, hc2⟩ := (HOR.out.below HWW.out).at_ (by rw [ints_length, HOL.out]; omega)
        have hkl : k < x.outs.length := by rw [HOL.out]; exact hlt
        have v0 := hc2 k _ (ints_at hkl)
        have q1 : (0 : Int) ≤ (k : Int) := by omega
        have q2 : (k : Int) < (on : Int) := by omega
        have HK := Lib.hid (HPS.out k hkl)
        have hkz := HPZ.out k (by omega)
        have hxi : In64 (x.outs.getD k 0) := HOI.out _ (by rw [List.getD, List.getElem?_eq_getElem hkl]; exact List.getElem_mem _)
        have HIX := Lib.hid (fun W (h : Below w.heap.size w W) => rItoa_any (x.outs.getD k 0) hxi W)
        have hz3 := itoaS_size hxi
        generalize x.outs.getD k 0 = y at *
        generalize itoaS y = z3 at *
        generalize pumpS x k = pk at *
        have f0 : ¬ 9223372036854775807 < pk.size + 1 := by omega
        have f1 : ¬ 9223372036854775807 < pk.size + 1 + z3.size := by omega
        clear hc2 hkl hkz hz3
        go_wp2_with (go_at_call 68; refine (HIX.out _ HWW.out).mono ?_; rintro er w4 ⟨rfl, hb4⟩; have HB4 := Lib.hid (HW.out.trans (hb4.mono HW.out.size)); clear hb4)
        go_roundg (on - (k + 1))
        case measure => rw [HQ.out]; omega
        case rel => exact ⟨k + 1, by omega, rfl, by go_num, by rw [HK.out], HB4.out⟩
      · obtain rfl : k = on := by omega
        have q2 : ¬ (k : Int) < (k : Int) := by omega
        have hx4 := HX3.out.below HW.out hg3
        have v0 := hx4.cell (i := 0) rfl
        have v1 := hx4.cell (i := 1) rfl
        have v2 := hx4.cell (i := 2) rfl
        have v3 := hx4.cell (i := 3) rfl
        have v4 := hx4.cell (i := 4) rfl
        have v5 := hx4.cell (i := 5) rfl
        have v6 := hx4.cell (i := 6) rfl
        have v7 := hx4.cell (i := 7) rfl
        have v8 := hx4.cell (i := 8) rfl
        have hg4 := hx4.lt
        clear hx4
        go_wp2_with (go_at_call 61; refine (HSE.out _ HWW.out).mono ?_; rintro er w5 ⟨rfl, hb5⟩; have HB5 := Lib.hid (HWW.out.trans (hb5.mono HWW.out.size)); clear hb5)
        go_ret2
        exact ⟨⟨_, by rw [HV1.out]; rfl, fun _ => by rw [HVE.out]⟩, HB5.out⟩

theorem rsay_any (a : EvR) (x : Ev) (n : Nat) (w : World) (hn : n ≤ 2000000) (ha : EvAt w a x) (hi : EvIn x) (hs : EvSm x) : Calls Tryz.prog 62 #[evV a, .int .i64 n] w fun e w' => RSay x n w e w' := by
  by_cases ht : 0 ≤ x.thread ∧ x.thread ≤ 63
  · by_cases h1 : x.kind = 1
    · exact rsay_pick a x n w hn ha hi hs ht h1
    by_cases h2 : x.kind = 2
    · exact rsay_call a x n w hn ha hi hs ht h2
    by_cases h3 : x.kind = 3
    · exact rsay_pump a x n w hn ha hi hs ht h3
    · exact rsay_else a x n w hn ha hi hs ht h1 h2 h3
  · exact rsay_low a x n w hn ha hi hs ht

end Go.Proofs.YtalkllfgedacoaaGreatDoor
