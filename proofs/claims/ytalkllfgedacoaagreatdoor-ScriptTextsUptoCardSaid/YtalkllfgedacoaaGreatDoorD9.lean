/- slices.Repeat of one event, walked. -/
import Derived.Test.YtalkllfgedacoaaGreatDoorD5
import Derived.Test.YtalkllfgedacoaaGreatDoorD8
import Derived.Test.YtalkllfgedacoaaGreatDoorShelf
import Derived.Laws.CopyRow
import Derived.Laws.CopyOwn
import Derived.Laws.MakeOwn
import Derived.Deep.RegionHeld3
namespace Go.Proofs.YtalkllfgedacoaaGreatDoor
open Go.RowKit Go.Sort

/-- An event's slices are no longer than this. -/
structure EvR.Small (a : EvR) : Prop where
  n : a.q.n ≤ 1048576
  on : a.on ≤ 1048576
theorem ev_eq {w : World} {a b : EvR} {x y : Ev} (ha : EvAt w a x) (hb : EvAt w b y) : decide (x = y) = (a.kind == b.kind && (a.thread == b.thread && ((a.q.kind == b.q.kind && a.q.arg == b.q.arg && a.q.value == b.q.value && a.q.dflt == b.q.dflt && x.rq.cs == y.rq.cs) && (a.inn == b.inn && x.outs == y.outs)))) := by
  obtain ⟨xk, xt, ⟨xq, xa, xv, xd, xc⟩, xi, xo⟩ := x
  obtain ⟨yk, yt, ⟨yq, ya, yv, yd, yc⟩, yi, yo⟩ := y
  have h1 := ha.kind; have h2 := ha.thread; have h3 := ha.qk; have h4 := ha.qa; have h5 := ha.qv; have h6 := ha.qd; have h7 := ha.inn
  have g1 := hb.kind; have g2 := hb.thread; have g3 := hb.qk; have g4 := hb.qa; have g5 := hb.qv; have g6 := hb.qd; have g7 := hb.inn
  simp only at h1 h2 h3 h4 h5 h6 h7 g1 g2 g3 g4 g5 g6 g7
  rw [h1, h2, h3, h4, h5, h6, h7, g1, g2, g3, g4, g5, g6, g7, Bool.eq_iff_iff]
  simp only [decide_eq_true_eq, Ev.mk.injEq, Rq.mk.injEq, Bool.and_eq_true, beq_iff_eq, and_assoc]

set_option maxHeartbeats 4000000 in
set_option maxRecDepth 100000 in
theorem evSame_any (a b : EvR) (x y : Ev) (w : World) (ha : EvAt w a x) (hb : EvAt w b y) (sa : a.Small) (sb : b.Small) :
    Calls Tryz.prog 27 #[evV a, evV b] w fun e w' => e = .returned (.bool (decide (x = y))) ∧ Below w.heap.size w w' := by
  have HV := Lib.hid (ev_eq ha hb)
  have hl1 := ha.len
  have hl2 := hb.len
  have HRQ := Lib.hid (fun W (h : Below w.heap.size w W) => same24_any a.q b.q x.rq.cs y.rq.cs W (Nat.le_trans sa.n (by decide)) (Nat.le_trans sb.n (by decide)) (ha.req.below h) (hb.req.below h))
  have HIN := Lib.hid (fun W (h : Below w.heap.size w W) => IntsEq_any a.OA b.OA a.oc b.oc x.outs y.outs W (by rw [hl1]; exact Nat.le_trans sa.on (by decide)) (by rw [hl2]; exact Nat.le_trans sb.on (by decide)) (ha.rd.below h) (hb.rd.below h))
  rw [hl1, hl2] at HIN
  obtain ⟨k1, t1, ⟨qk1, qa1, qv1, qd1, QA1, qn1, qc1⟩, i1, OA1, on1, oc1⟩ := a
  obtain ⟨k2, t2, ⟨qk2, qa2, qv2, qd2, QA2, qn2, qc2⟩, i2, OA2, on2, oc2⟩ := b
  unfold reqV at HRQ
  simp only at HV HRQ HIN hl1 hl2
  clear ha hb sa sb hl1 hl2
  generalize (qk1 == qk2 && qa1 == qa2 && qv1 == qv2 && qd1 == qd2 && x.rq.cs == y.rq.cs) = rb at *
  generalize (x.outs == y.outs) = ob at *
  generalize decide (x = y) = V at *
  have HX1 : RowKit.Hid (Blk ((w.alloc (.cells #[.int .i64 k1, .int .i64 t1, .int .i64 qk1, .int .i64 qa1, .int .i64 qv1, .bool qd1, .slice QA1 qn1 qc1, .int .i64 i1, .slice OA1 on1 oc1] 74)).alloc (.cells #[.int .i64 k2, .int .i64 t2, .int .i64 qk2, .int .i64 qa2, .int .i64 qv2, .bool qd2, .slice QA2 qn2 qc2, .int .i64 i2, .slice OA2 on2 oc2] 74)) w.heap.size 74 [.int .i64 k1, .int .i64 t1, .int .i64 qk1, .int .i64 qa1, .int .i64 qv1, .bool qd1, .slice QA1 qn1 qc1, .int .i64 i1, .slice OA1 on1 oc1]) := Lib.hid ((Blk.new w _ _).alloc _)
  have HX2 : RowKit.Hid (Blk ((w.alloc (.cells #[.int .i64 k1, .int .i64 t1, .int .i64 qk1, .int .i64 qa1, .int .i64 qv1, .bool qd1, .slice QA1 qn1 qc1, .int .i64 i1, .slice OA1 on1 oc1] 74)).alloc (.cells #[.int .i64 k2, .int .i64 t2, .int .i64 qk2, .int .i64 qa2, .int .i64 qv2, .bool qd2, .slice QA2 qn2 qc2, .int .i64 i2, .slice OA2 on2 oc2] 74)) (w.heap.size + 1) 74 [.int .i64 k2, .int .i64 t2, .int .i64 qk2, .int .i64 qa2, .int .i64 qv2, .bool qd2, .slice QA2 qn2 qc2, .int .i64 i2, .slice OA2 on2 oc2]) := Lib.hid (blk_new (by simp))
  have HB0 := Lib.hid (((Below.refl w.heap.size w).alloc (Nat.le_refl _) (.cells #[.int .i64 k1, .int .i64 t1, .int .i64 qk1, .int .i64 qa1, .int .i64 qv1, .bool qd1, .slice QA1 qn1 qc1, .int .i64 i1, .slice OA1 on1 oc1] 74)).alloc (by simp) (.cells #[.int .i64 k2, .int .i64 t2, .int .i64 qk2, .int .i64 qa2, .int .i64 qv2, .bool qd2, .slice QA2 qn2 qc2, .int .i64 i2, .slice OA2 on2 oc2] 74))
  by_cases e1 : k1 = k2
  case neg =>
    have b1 : (k1 == k2) = false := beq_eq_false_iff_ne.2 e1
    have HV1 : RowKit.Hid (V = false) := Lib.hid (by rw [HV.out, b1]; rfl)
    clear HV e1
    go_enter Tryz.func27, Tryz.ntmps27
    go_upto_region 1 with (fail)
    generalize (w.alloc (.cells #[.int .i64 k1, .int .i64 t1, .int .i64 qk1, .int .i64 qa1, .int .i64 qv1, .bool qd1, .slice QA1 qn1 qc1, .int .i64 i1, .slice OA1 on1 oc1] 74)).alloc (.cells #[.int .i64 k2, .int .i64 t2, .int .i64 qk2, .int .i64 qa2, .int .i64 qv2, .bool qd2, .slice QA2 qn2 qc2, .int .i64 i2, .slice OA2 on2 oc2] 74) = W0 at *
    have z0 := HX1.out.cell (i := 0) rfl
    have u0 := HX2.out.cell (i := 0) rfl
    have z1 := HX1.out.cell (i := 1) rfl
    have u1 := HX2.out.cell (i := 1) rfl
    have z2 := HX1.out.cell (i := 2) rfl
    have u2 := HX2.out.cell (i := 2) rfl
    have z3 := HX1.out.cell (i := 3) rfl
    have u3 := HX2.out.cell (i := 3) rfl
    have z4 := HX1.out.cell (i := 4) rfl
    have u4 := HX2.out.cell (i := 4) rfl
    have z5 := HX1.out.cell (i := 5) rfl
    have u5 := HX2.out.cell (i := 5) rfl
    have z6 := HX1.out.cell (i := 6) rfl
    have u6 := HX2.out.cell (i := 6) rfl
    have z7 := HX1.out.cell (i := 7) rfl
    have u7 := HX2.out.cell (i := 7) rfl
    have z8 := HX1.out.cell (i := 8) rfl
    have u8 := HX2.out.cell (i := 8) rfl
    have hw1 := HX1.out.lt
    have hw2 := HX2.out.lt
    go_wp2_with fail
    go_ret
    exact ⟨by rw [HV1.out]; rfl, HB0.out⟩
  have b1 : (k1 == k2) = true := beq_iff_eq.2 e1
  by_cases e2 : t1 = t2
  case neg =>
    have b2 : (t1 == t2) = false := beq_eq_false_iff_ne.2 e2
    have HV1 : RowKit.Hid (V = false) := Lib.hid (by rw [HV.out, b1, b2]; rfl)
    clear HV e1 e2
    go_enter Tryz.func27, Tryz.ntmps27
    go_upto_region 1 with (fail)
    generalize (w.alloc (.cells #[.int .i64 k1, .int .i64 t1, .int .i64 qk1, .int .i64 qa1, .int .i64 qv1, .bool qd1, .slice QA1 qn1 qc1, .int .i64 i1, .slice OA1 on1 oc1] 74)).alloc (.cells #[.int .i64 k2, .int .i64 t2, .int .i64 qk2, .int .i64 qa2, .int .i64 qv2, .bool qd2, .slice QA2 qn2 qc2, .int .i64 i2, .slice OA2 on2 oc2] 74) = W0 at *
    have z0 := HX1.out.cell (i := 0) rfl
    have u0 := HX2.out.cell (i := 0) rfl
    have z1 := HX1.out.cell (i := 1) rfl
    have u1 := HX2.out.cell (i := 1) rfl
    have z2 := HX1.out.cell (i := 2) rfl
    have u2 := HX2.out.cell (i := 2) rfl
    have z3 := HX1.out.cell (i := 3) rfl
    have u3 := HX2.out.cell (i := 3) rfl
    have z4 := HX1.out.cell (i := 4) rfl
    have u4 := HX2.out.cell (i := 4) rfl
    have z5 := HX1.out.cell (i := 5) rfl
    have u5 := HX2.out.cell (i := 5) rfl
    have z6 := HX1.out.cell (i := 6) rfl
    have u6 := HX2.out.cell (i := 6) rfl
    have z7 := HX1.out.cell (i := 7) rfl
    have u7 := HX2.out.cell (i := 7) rfl
    have z8 := HX1.out.cell (i := 8) rfl
    have u8 := HX2.out.cell (i := 8) rfl
    have hw1 := HX1.out.lt
    have hw2 := HX2.out.lt
    go_wp2_with fail
    go_ret
    exact ⟨by rw [HV1.out]; rfl, HB0.out⟩
  have b2 : (t1 == t2) = true := beq_iff_eq.2 e2
  cases rb with
  | false =>
    have HV1 : RowKit.Hid (V = false) := Lib.hid (by rw [HV.out, b1, b2]; rfl)
    clear HV e1 e2
    go_enter Tryz.func27, Tryz.ntmps27
    go_upto_region 1 with (fail)
    generalize (w.alloc (.cells #[.int .i64 k1, .int .i64 t1, .int .i64 qk1, .int .i64 qa1, .int .i64 qv1, .bool qd1, .slice QA1 qn1 qc1, .int .i64 i1, .slice OA1 on1 oc1] 74)).alloc (.cells #[.int .i64 k2, .int .i64 t2, .int .i64 qk2, .int .i64 qa2, .int .i64 qv2, .bool qd2, .slice QA2 qn2 qc2, .int .i64 i2, .slice OA2 on2 oc2] 74) = W0 at *
    have z0 := HX1.out.cell (i := 0) rfl
    have u0 := HX2.out.cell (i := 0) rfl
    have z1 := HX1.out.cell (i := 1) rfl
    have u1 := HX2.out.cell (i := 1) rfl
    have z2 := HX1.out.cell (i := 2) rfl
    have u2 := HX2.out.cell (i := 2) rfl
    have z3 := HX1.out.cell (i := 3) rfl
    have u3 := HX2.out.cell (i := 3) rfl
    have z4 := HX1.out.cell (i := 4) rfl
    have u4 := HX2.out.cell (i := 4) rfl
    have z5 := HX1.out.cell (i := 5) rfl
    have u5 := HX2.out.cell (i := 5) rfl
    have z6 := HX1.out.cell (i := 6) rfl
    have u6 := HX2.out.cell (i := 6) rfl
    have z7 := HX1.out.cell (i := 7) rfl
    have u7 := HX2.out.cell (i := 7) rfl
    have z8 := HX1.out.cell (i := 8) rfl
    have u8 := HX2.out.cell (i := 8) rfl
    have hw1 := HX1.out.lt
    have hw2 := HX2.out.lt
    go_wp2_with (first | (go_at_call 52; refine (HRQ.out _ HB0.out).mono ?_; rintro er w1 ⟨rfl, hb1⟩; have HB1 := Lib.hid (HB0.out.trans (hb1.mono HB0.out.size)); have hx1 := HX1.out.below hb1 HX1.out.lt; have hx2 := HX2.out.below hb1 HX2.out.lt; have y1 := hx1.cell (i := 7) rfl; have y2 := hx2.cell (i := 7) rfl; have y3 := hx1.cell (i := 8) rfl; have y4 := hx2.cell (i := 8) rfl; have hg1 := hx1.lt; have hg2 := hx2.lt; clear hb1 hx1 hx2))
    go_ret
    exact ⟨by rw [HV1.out]; rfl, HB1.out⟩
  | true =>
    by_cases e3 : i1 = i2
    case neg =>
      have b3 : (i1 == i2) = false := beq_eq_false_iff_ne.2 e3
      have HV1 : RowKit.Hid (V = false) := Lib.hid (by rw [HV.out, b1, b2, b3]; rfl)
      clear HV e1 e2 e3
      go_enter Tryz.func27, Tryz.ntmps27
      go_upto_region 1 with (fail)
      generalize (w.alloc (.cells #[.int .i64 k1, .int .i64 t1, .int .i64 qk1, .int .i64 qa1, .int .i64 qv1, .bool qd1, .slice QA1 qn1 qc1, .int .i64 i1, .slice OA1 on1 oc1] 74)).alloc (.cells #[.int .i64 k2, .int .i64 t2, .int .i64 qk2, .int .i64 qa2, .int .i64 qv2, .bool qd2, .slice QA2 qn2 qc2, .int .i64 i2, .slice OA2 on2 oc2] 74) = W0 at *
      have z0 := HX1.out.cell (i := 0) rfl
      have u0 := HX2.out.cell (i := 0) rfl
      have z1 := HX1.out.cell (i := 1) rfl
      have u1 := HX2.out.cell (i := 1) rfl
      have z2 := HX1.out.cell (i := 2) rfl
      have u2 := HX2.out.cell (i := 2) rfl
      have z3 := HX1.out.cell (i := 3) rfl
      have u3 := HX2.out.cell (i := 3) rfl
      have z4 := HX1.out.cell (i := 4) rfl
      have u4 := HX2.out.cell (i := 4) rfl
      have z5 := HX1.out.cell (i := 5) rfl
      have u5 := HX2.out.cell (i := 5) rfl
      have z6 := HX1.out.cell (i := 6) rfl
      have u6 := HX2.out.cell (i := 6) rfl
      have z7 := HX1.out.cell (i := 7) rfl
      have u7 := HX2.out.cell (i := 7) rfl
      have z8 := HX1.out.cell (i := 8) rfl
      have u8 := HX2.out.cell (i := 8) rfl
      have hw1 := HX1.out.lt
      have hw2 := HX2.out.lt
      go_wp2_with (first | (go_at_call 52; refine (HRQ.out _ HB0.out).mono ?_; rintro er w1 ⟨rfl, hb1⟩; have HB1 := Lib.hid (HB0.out.trans (hb1.mono HB0.out.size)); have hx1 := HX1.out.below hb1 HX1.out.lt; have hx2 := HX2.out.below hb1 HX2.out.lt; have y1 := hx1.cell (i := 7) rfl; have y2 := hx2.cell (i := 7) rfl; have y3 := hx1.cell (i := 8) rfl; have y4 := hx2.cell (i := 8) rfl; have hg1 := hx1.lt; have hg2 := hx2.lt; clear hb1 hx1 hx2))
      go_ret
      exact ⟨by rw [HV1.out]; rfl, HB1.out⟩
    have b3 : (i1 == i2) = true := beq_iff_eq.2 e3
    have HV1 : RowKit.Hid (V = ob) := Lib.hid (by rw [HV.out, b1, b2, b3]; rfl)
    clear HV e1 e2 e3
    go_enter Tryz.func27, Tryz.ntmps27
    go_upto_region 1 with (fail)
    generalize (w.alloc (.cells #[.int .i64 k1, .int .i64 t1, .int .i64 qk1, .int .i64 qa1, .int .i64 qv1, .bool qd1, .slice QA1 qn1 qc1, .int .i64 i1, .slice OA1 on1 oc1] 74)).alloc (.cells #[.int .i64 k2, .int .i64 t2, .int .i64 qk2, .int .i64 qa2, .int .i64 qv2, .bool qd2, .slice QA2 qn2 qc2, .int .i64 i2, .slice OA2 on2 oc2] 74) = W0 at *
    have z0 := HX1.out.cell (i := 0) rfl
    have u0 := HX2.out.cell (i := 0) rfl
    have z1 := HX1.out.cell (i := 1) rfl
    have u1 := HX2.out.cell (i := 1) rfl
    have z2 := HX1.out.cell (i := 2) rfl
    have u2 := HX2.out.cell (i := 2) rfl
    have z3 := HX1.out.cell (i := 3) rfl
    have u3 := HX2.out.cell (i := 3) rfl
    have z4 := HX1.out.cell (i := 4) rfl
    have u4 := HX2.out.cell (i := 4) rfl
    have z5 := HX1.out.cell (i := 5) rfl
    have u5 := HX2.out.cell (i := 5) rfl
    have z6 := HX1.out.cell (i := 6) rfl
    have u6 := HX2.out.cell (i := 6) rfl
    have z7 := HX1.out.cell (i := 7) rfl
    have u7 := HX2.out.cell (i := 7) rfl
    have z8 := HX1.out.cell (i := 8) rfl
    have u8 := HX2.out.cell (i := 8) rfl
    have hw1 := HX1.out.lt
    have hw2 := HX2.out.lt
    go_wp2_with (first | (go_at_call 52; refine (HRQ.out _ HB0.out).mono ?_; rintro er w1 ⟨rfl, hb1⟩; have HB1 := Lib.hid (HB0.out.trans (hb1.mono HB0.out.size)); have hx1 := HX1.out.below hb1 HX1.out.lt; have hx2 := HX2.out.below hb1 HX2.out.lt; have y1 := hx1.cell (i := 7) rfl; have y2 := hx2.cell (i := 7) rfl; have y3 := hx1.cell (i := 8) rfl; have y4 := hx2.cell (i := 8) rfl; have hg1 := hx1.lt; have hg2 := hx2.lt; clear hb1 hx1 hx2) | (go_at_call 53; refine (HIN.out _ HB1.out).mono ?_; rintro er w2 ⟨rfl, hb2⟩; have HB2 := Lib.hid (HB1.out.trans (hb2.mono HB1.out.size)); clear hb2))
    go_ret
    exact ⟨by rw [HV1.out]; rfl, HB2.out⟩

set_option maxHeartbeats 4000000 in
set_option maxRecDepth 100000 in
theorem evPlain_any (a b : EvR) (x y : Ev) (w : World) (ha : EvAt w a x) (hb : EvAt w b y) (sa : a.Small) (sb : b.Small) :
    Calls Tryz.prog 28 #[evV a, evV b] w fun e w' => e = .returned (.bool (decide (x = y))) ∧ Below w.heap.size w w' := by
  have HV := Lib.hid (ev_eq ha hb)
  have hl1 := ha.len
  have hl2 := hb.len
  have HRQ := Lib.hid (fun W (h : Below w.heap.size w W) => reqP_any a.q b.q x.rq.cs y.rq.cs W (Nat.le_trans sa.n (by decide)) (Nat.le_trans sb.n (by decide)) (ha.req.below h) (hb.req.below h))
  have HIN := Lib.hid (fun W (h : Below w.heap.size w W) => Ints_any a.OA b.OA a.oc b.oc x.outs y.outs W (by rw [hl1]; exact Nat.le_trans sa.on (by decide)) (by rw [hl2]; exact Nat.le_trans sb.on (by decide)) (ha.rd.below h) (hb.rd.below h))
  rw [hl1, hl2] at HIN
  obtain ⟨k1, t1, ⟨qk1, qa1, qv1, qd1, QA1, qn1, qc1⟩, i1, OA1, on1, oc1⟩ := a
  obtain ⟨k2, t2, ⟨qk2, qa2, qv2, qd2, QA2, qn2, qc2⟩, i2, OA2, on2, oc2⟩ := b
  unfold reqV at HRQ
  simp only at HV HRQ HIN hl1 hl2
  clear ha hb sa sb hl1 hl2
  generalize (qk1 == qk2 && qa1 == qa2 && qv1 == qv2 && qd1 == qd2 && x.rq.cs == y.rq.cs) = rb at *
  generalize (x.outs == y.outs) = ob at *
  generalize decide (x = y) = V at *
  have HX1 : RowKit.Hid (Blk ((w.alloc (.cells #[.int .i64 k1, .int .i64 t1, .int .i64 qk1, .int .i64 qa1, .int .i64 qv1, .bool qd1, .slice QA1 qn1 qc1, .int .i64 i1, .slice OA1 on1 oc1] 74)).alloc (.cells #[.int .i64 k2, .int .i64 t2, .int .i64 qk2, .int .i64 qa2, .int .i64 qv2, .bool qd2, .slice QA2 qn2 qc2, .int .i64 i2, .slice OA2 on2 oc2] 74)) w.heap.size 74 [.int .i64 k1, .int .i64 t1, .int .i64 qk1, .int .i64 qa1, .int .i64 qv1, .bool qd1, .slice QA1 qn1 qc1, .int .i64 i1, .slice OA1 on1 oc1]) := Lib.hid ((Blk.new w _ _).alloc _)
  have HX2 : RowKit.Hid (Blk ((w.alloc (.cells #[.int .i64 k1, .int .i64 t1, .int .i64 qk1, .int .i64 qa1, .int .i64 qv1, .bool qd1, .slice QA1 qn1 qc1, .int .i64 i1, .slice OA1 on1 oc1] 74)).alloc (.cells #[.int .i64 k2, .int .i64 t2, .int .i64 qk2, .int .i64 qa2, .int .i64 qv2, .bool qd2, .slice QA2 qn2 qc2, .int .i64 i2, .slice OA2 on2 oc2] 74)) (w.heap.size + 1) 74 [.int .i64 k2, .int .i64 t2, .int .i64 qk2, .int .i64 qa2, .int .i64 qv2, .bool qd2, .slice QA2 qn2 qc2, .int .i64 i2, .slice OA2 on2 oc2]) := Lib.hid (blk_new (by simp))
  have HB0 := Lib.hid (((Below.refl w.heap.size w).alloc (Nat.le_refl _) (.cells #[.int .i64 k1, .int .i64 t1, .int .i64 qk1, .int .i64 qa1, .int .i64 qv1, .bool qd1, .slice QA1 qn1 qc1, .int .i64 i1, .slice OA1 on1 oc1] 74)).alloc (by simp) (.cells #[.int .i64 k2, .int .i64 t2, .int .i64 qk2, .int .i64 qa2, .int .i64 qv2, .bool qd2, .slice QA2 qn2 qc2, .int .i64 i2, .slice OA2 on2 oc2] 74))
  by_cases e1 : k1 = k2
  case neg =>
    have b1 : (k1 == k2) = false := beq_eq_false_iff_ne.2 e1
    have HV1 : RowKit.Hid (V = false) := Lib.hid (by rw [HV.out, b1]; rfl)
    clear HV e1
    go_enter Tryz.func28, Tryz.ntmps28
    go_upto_region 1 with (fail)
    generalize (w.alloc (.cells #[.int .i64 k1, .int .i64 t1, .int .i64 qk1, .int .i64 qa1, .int .i64 qv1, .bool qd1, .slice QA1 qn1 qc1, .int .i64 i1, .slice OA1 on1 oc1] 74)).alloc (.cells #[.int .i64 k2, .int .i64 t2, .int .i64 qk2, .int .i64 qa2, .int .i64 qv2, .bool qd2, .slice QA2 qn2 qc2, .int .i64 i2, .slice OA2 on2 oc2] 74) = W0 at *
    have z0 := HX1.out.cell (i := 0) rfl
    have u0 := HX2.out.cell (i := 0) rfl
    have z1 := HX1.out.cell (i := 1) rfl
    have u1 := HX2.out.cell (i := 1) rfl
    have z2 := HX1.out.cell (i := 2) rfl
    have u2 := HX2.out.cell (i := 2) rfl
    have z3 := HX1.out.cell (i := 3) rfl
    have u3 := HX2.out.cell (i := 3) rfl
    have z4 := HX1.out.cell (i := 4) rfl
    have u4 := HX2.out.cell (i := 4) rfl
    have z5 := HX1.out.cell (i := 5) rfl
    have u5 := HX2.out.cell (i := 5) rfl
    have z6 := HX1.out.cell (i := 6) rfl
    have u6 := HX2.out.cell (i := 6) rfl
    have z7 := HX1.out.cell (i := 7) rfl
    have u7 := HX2.out.cell (i := 7) rfl
    have z8 := HX1.out.cell (i := 8) rfl
    have u8 := HX2.out.cell (i := 8) rfl
    have hw1 := HX1.out.lt
    have hw2 := HX2.out.lt
    go_wp2_with fail
    go_ret
    exact ⟨by rw [HV1.out]; rfl, HB0.out⟩
  have b1 : (k1 == k2) = true := beq_iff_eq.2 e1
  by_cases e2 : t1 = t2
  case neg =>
    have b2 : (t1 == t2) = false := beq_eq_false_iff_ne.2 e2
    have HV1 : RowKit.Hid (V = false) := Lib.hid (by rw [HV.out, b1, b2]; rfl)
    clear HV e1 e2
    go_enter Tryz.func28, Tryz.ntmps28
    go_upto_region 1 with (fail)
    generalize (w.alloc (.cells #[.int .i64 k1, .int .i64 t1, .int .i64 qk1, .int .i64 qa1, .int .i64 qv1, .bool qd1, .slice QA1 qn1 qc1, .int .i64 i1, .slice OA1 on1 oc1] 74)).alloc (.cells #[.int .i64 k2, .int .i64 t2, .int .i64 qk2, .int .i64 qa2, .int .i64 qv2, .bool qd2, .slice QA2 qn2 qc2, .int .i64 i2, .slice OA2 on2 oc2] 74) = W0 at *
    have z0 := HX1.out.cell (i := 0) rfl
    have u0 := HX2.out.cell (i := 0) rfl
    have z1 := HX1.out.cell (i := 1) rfl
    have u1 := HX2.out.cell (i := 1) rfl
    have z2 := HX1.out.cell (i := 2) rfl
    have u2 := HX2.out.cell (i := 2) rfl
    have z3 := HX1.out.cell (i := 3) rfl
    have u3 := HX2.out.cell (i := 3) rfl
    have z4 := HX1.out.cell (i := 4) rfl
    have u4 := HX2.out.cell (i := 4) rfl
    have z5 := HX1.out.cell (i := 5) rfl
    have u5 := HX2.out.cell (i := 5) rfl
    have z6 := HX1.out.cell (i := 6) rfl
    have u6 := HX2.out.cell (i := 6) rfl
    have z7 := HX1.out.cell (i := 7) rfl
    have u7 := HX2.out.cell (i := 7) rfl
    have z8 := HX1.out.cell (i := 8) rfl
    have u8 := HX2.out.cell (i := 8) rfl
    have hw1 := HX1.out.lt
    have hw2 := HX2.out.lt
    go_wp2_with fail
    go_ret
    exact ⟨by rw [HV1.out]; rfl, HB0.out⟩
  have b2 : (t1 == t2) = true := beq_iff_eq.2 e2
  cases rb with
  | false =>
    have HV1 : RowKit.Hid (V = false) := Lib.hid (by rw [HV.out, b1, b2]; rfl)
    clear HV e1 e2
    go_enter Tryz.func28, Tryz.ntmps28
    go_upto_region 1 with (fail)
    generalize (w.alloc (.cells #[.int .i64 k1, .int .i64 t1, .int .i64 qk1, .int .i64 qa1, .int .i64 qv1, .bool qd1, .slice QA1 qn1 qc1, .int .i64 i1, .slice OA1 on1 oc1] 74)).alloc (.cells #[.int .i64 k2, .int .i64 t2, .int .i64 qk2, .int .i64 qa2, .int .i64 qv2, .bool qd2, .slice QA2 qn2 qc2, .int .i64 i2, .slice OA2 on2 oc2] 74) = W0 at *
    have z0 := HX1.out.cell (i := 0) rfl
    have u0 := HX2.out.cell (i := 0) rfl
    have z1 := HX1.out.cell (i := 1) rfl
    have u1 := HX2.out.cell (i := 1) rfl
    have z2 := HX1.out.cell (i := 2) rfl
    have u2 := HX2.out.cell (i := 2) rfl
    have z3 := HX1.out.cell (i := 3) rfl
    have u3 := HX2.out.cell (i := 3) rfl
    have z4 := HX1.out.cell (i := 4) rfl
    have u4 := HX2.out.cell (i := 4) rfl
    have z5 := HX1.out.cell (i := 5) rfl
    have u5 := HX2.out.cell (i := 5) rfl
    have z6 := HX1.out.cell (i := 6) rfl
    have u6 := HX2.out.cell (i := 6) rfl
    have z7 := HX1.out.cell (i := 7) rfl
    have u7 := HX2.out.cell (i := 7) rfl
    have z8 := HX1.out.cell (i := 8) rfl
    have u8 := HX2.out.cell (i := 8) rfl
    have hw1 := HX1.out.lt
    have hw2 := HX2.out.lt
    go_wp2_with (first | (go_at_call 54; refine (HRQ.out _ HB0.out).mono ?_; rintro er w1 ⟨rfl, hb1⟩; have HB1 := Lib.hid (HB0.out.trans (hb1.mono HB0.out.size)); have hx1 := HX1.out.below hb1 HX1.out.lt; have hx2 := HX2.out.below hb1 HX2.out.lt; have y1 := hx1.cell (i := 7) rfl; have y2 := hx2.cell (i := 7) rfl; have y3 := hx1.cell (i := 8) rfl; have y4 := hx2.cell (i := 8) rfl; have hg1 := hx1.lt; have hg2 := hx2.lt; clear hb1 hx1 hx2))
    go_ret
    exact ⟨by rw [HV1.out]; rfl, HB1.out⟩
  | true =>
    by_cases e3 : i1 = i2
    case neg =>
      have b3 : (i1 == i2) = false := beq_eq_false_iff_ne.2 e3
      have HV1 : RowKit.Hid (V = false) := Lib.hid (by rw [HV.out, b1, b2, b3]; rfl)
      clear HV e1 e2 e3
      go_enter Tryz.func28, Tryz.ntmps28
      go_upto_region 1 with (fail)
      generalize (w.alloc (.cells #[.int .i64 k1, .int .i64 t1, .int .i64 qk1, .int .i64 qa1, .int .i64 qv1, .bool qd1, .slice QA1 qn1 qc1, .int .i64 i1, .slice OA1 on1 oc1] 74)).alloc (.cells #[.int .i64 k2, .int .i64 t2, .int .i64 qk2, .int .i64 qa2, .int .i64 qv2, .bool qd2, .slice QA2 qn2 qc2, .int .i64 i2, .slice OA2 on2 oc2] 74) = W0 at *
      have z0 := HX1.out.cell (i := 0) rfl
      have u0 := HX2.out.cell (i := 0) rfl
      have z1 := HX1.out.cell (i := 1) rfl
      have u1 := HX2.out.cell (i := 1) rfl
      have z2 := HX1.out.cell (i := 2) rfl
      have u2 := HX2.out.cell (i := 2) rfl
      have z3 := HX1.out.cell (i := 3) rfl
      have u3 := HX2.out.cell (i := 3) rfl
      have z4 := HX1.out.cell (i := 4) rfl
      have u4 := HX2.out.cell (i := 4) rfl
      have z5 := HX1.out.cell (i := 5) rfl
      have u5 := HX2.out.cell (i := 5) rfl
      have z6 := HX1.out.cell (i := 6) rfl
      have u6 := HX2.out.cell (i := 6) rfl
      have z7 := HX1.out.cell (i := 7) rfl
      have u7 := HX2.out.cell (i := 7) rfl
      have z8 := HX1.out.cell (i := 8) rfl
      have u8 := HX2.out.cell (i := 8) rfl
      have hw1 := HX1.out.lt
      have hw2 := HX2.out.lt
      go_wp2_with (first | (go_at_call 54; refine (HRQ.out _ HB0.out).mono ?_; rintro er w1 ⟨rfl, hb1⟩; have HB1 := Lib.hid (HB0.out.trans (hb1.mono HB0.out.size)); have hx1 := HX1.out.below hb1 HX1.out.lt; have hx2 := HX2.out.below hb1 HX2.out.lt; have y1 := hx1.cell (i := 7) rfl; have y2 := hx2.cell (i := 7) rfl; have y3 := hx1.cell (i := 8) rfl; have y4 := hx2.cell (i := 8) rfl; have hg1 := hx1.lt; have hg2 := hx2.lt; clear hb1 hx1 hx2))
      go_ret
      exact ⟨by rw [HV1.out]; rfl, HB1.out⟩
    have b3 : (i1 == i2) = true := beq_iff_eq.2 e3
    have HV1 : RowKit.Hid (V = ob) := Lib.hid (by rw [HV.out, b1, b2, b3]; rfl)
    clear HV e1 e2 e3
    go_enter Tryz.func28, Tryz.ntmps28
    go_upto_region 1 with (fail)
    generalize (w.alloc (.cells #[.int .i64 k1, .int .i64 t1, .int .i64 qk1, .int .i64 qa1, .int .i64 qv1, .bool qd1, .slice QA1 qn1 qc1, .int .i64 i1, .slice OA1 on1 oc1] 74)).alloc (.cells #[.int .i64 k2, .int .i64 t2, .int .i64 qk2, .int .i64 qa2, .int .i64 qv2, .bool qd2, .slice QA2 qn2 qc2, .int .i64 i2, .slice OA2 on2 oc2] 74) = W0 at *
    have z0 := HX1.out.cell (i := 0) rfl
    have u0 := HX2.out.cell (i := 0) rfl
    have z1 := HX1.out.cell (i := 1) rfl
    have u1 := HX2.out.cell (i := 1) rfl
    have z2 := HX1.out.cell (i := 2) rfl
    have u2 := HX2.out.cell (i := 2) rfl
    have z3 := HX1.out.cell (i := 3) rfl
    have u3 := HX2.out.cell (i := 3) rfl
    have z4 := HX1.out.cell (i := 4) rfl
    have u4 := HX2.out.cell (i := 4) rfl
    have z5 := HX1.out.cell (i := 5) rfl
    have u5 := HX2.out.cell (i := 5) rfl
    have z6 := HX1.out.cell (i := 6) rfl
    have u6 := HX2.out.cell (i := 6) rfl
    have z7 := HX1.out.cell (i := 7) rfl
    have u7 := HX2.out.cell (i := 7) rfl
    have z8 := HX1.out.cell (i := 8) rfl
    have u8 := HX2.out.cell (i := 8) rfl
    have hw1 := HX1.out.lt
    have hw2 := HX2.out.lt
    go_wp2_with (first | (go_at_call 54; refine (HRQ.out _ HB0.out).mono ?_; rintro er w1 ⟨rfl, hb1⟩; have HB1 := Lib.hid (HB0.out.trans (hb1.mono HB0.out.size)); have hx1 := HX1.out.below hb1 HX1.out.lt; have hx2 := HX2.out.below hb1 HX2.out.lt; have y1 := hx1.cell (i := 7) rfl; have y2 := hx2.cell (i := 7) rfl; have y3 := hx1.cell (i := 8) rfl; have y4 := hx2.cell (i := 8) rfl; have hg1 := hx1.lt; have hg2 := hx2.lt; clear hb1 hx1 hx2) | (go_at_call 55; refine (HIN.out _ HB1.out).mono ?_; rintro er w2 ⟨rfl, hb2⟩; have HB2 := Lib.hid (HB1.out.trans (hb2.mono HB1.out.size)); clear hb2))
    go_ret
    exact ⟨by rw [HV1.out]; rfl, HB2.out⟩

end Go.Proofs.YtalkllfgedacoaaGreatDoor

namespace Go.Proofs.YtalkllfgedacoaaGreatDoor
open Go.RowKit Go.Sort

/-- Rows of records are copied, cell by cell. -/
theorem run_copy_rows {P : Program} (w : World) (dT sT ty elem : TypeId) (size : Nat) (g o dLen dCap : Nat) (a : Addr) (sLen sCap k : Nat) (cur : Array Value) (t : TypeId) (cs : List Value)
    (hu : P.underlying dT = some (.slice elem)) (hs : (P.info? elem).map (·.size) = some size)
    (hg : w.heap[g]? = some (.cells cur t (0, 0))) (hk : Nat.min sLen dLen = k) (hn : cs.length = k * size)
    (hsrc : ∀ j v, cs[j]? = some v → w.cell? (a.add j) = some v) (hfit : o + cs.length ≤ cur.size) (h1 : ∀ v ∈ cs, v.oneCell' = true) :
    (Builtin.copy_ #[dT, sT] ty #[.slice (some ⟨g, o, none⟩) dLen dCap, .slice (some a) sLen sCap]).run P w =
      .ok (goInt k) (w.setRow g (cur.toList.take o ++ cs ++ cur.toList.drop (o + cs.length)).toArray) := by
  have hl := run_loadCells_list (P := P) w a cs hsrc
  have hst := run_storeCells_at P g o t cs 0 cur w hg (by simpa using hfit) h1
  cases hq : P.info? elem with
  | none => simp [hq] at hs
  | some i =>
    have hi : i.size = size := by simpa [hq] using hs
    simp [Builtin.copy_, run_underlying hu, Builtin.lenOf, Builtin.firstCells, sizeOf, typeInfo, hq, hi, hk, ← hn, hl, hst]

theorem ev_info : (Tryz.prog.info? 74).map (fun i => (i.zero, i.size, i.bytes)) = some (some (evV EvR.none), 9, 104) := by kernel_rfl
theorem ev_size : (Tryz.prog.info? 74).map (·.size) = some 9 := by kernel_rfl

/-- So many events, and what was there behind them. -/
def repC (e : EvR) (Z : List Value) (k : Nat) : List Value := rows (List.replicate k e) ++ Z.drop (k * 9)
theorem rep_len (e : EvR) (k : Nat) : (rows (List.replicate k e)).length = k * 9 := by rw [rows_length, List.length_replicate]; rfl
theorem repC_len {e : EvR} {Z : List Value} {n k : Nat} (hZ : Z.length = n * 9) (hk : k ≤ n) : (repC e Z k).length = n * 9 := by
  unfold repC
  rw [List.length_append, rep_len, List.length_drop, hZ]
  omega
theorem repC_step {e : EvR} {Z : List Value} {k m : Nat} : (repC e Z k).take (k * 9) ++ rows (List.replicate m e) ++ (repC e Z k).drop (k * 9 + (rows (List.replicate m e)).length) = repC e Z (k + m) := by
  unfold repC
  rw [List.take_append_of_le_length (by rw [rep_len]; exact Nat.le_refl _), List.take_of_length_le (by rw [rep_len]; exact Nat.le_refl _), rep_len, ← List.drop_drop, List.drop_append_of_le_length (by rw [rep_len]; exact Nat.le_refl _), List.drop_of_length_le (l := rows _) (by rw [rep_len]; exact Nat.le_refl _), List.nil_append, List.drop_drop, ← rows_append, List.replicate_append_replicate, Nat.add_mul]
theorem repC_zero (e : EvR) (Z : List Value) : repC e Z 0 = Z := by unfold repC; simp [rows]
theorem repC_all {e : EvR} {Z : List Value} {n : Nat} (hZ : Z.length = n * 9) : repC e Z n = rows (List.replicate n e) := by
  unfold repC
  rw [List.drop_of_length_le (by omega), List.append_nil]
theorem rep_at {w : World} {g : Nat} {e : EvR} {Z : List Value} {k m : Nat} {t : TypeId} (h : Blk w g t (repC e Z k)) (hm : m ≤ k) : ∀ j v, (rows (List.replicate m e))[j]? = some v → w.cell? ((⟨g, 0, none⟩ : Addr).add j) = some v := by
  intro j v hv
  have ha : (⟨g, 0, none⟩ : Addr).add j = ⟨g, j, none⟩ := by unfold Addr.add; split <;> simp_all
  rw [ha]
  refine h.cell ?_
  have e1 : rows (List.replicate k e) = rows (List.replicate m e) ++ rows (List.replicate (k - m) e) := by
    rw [← rows_append, List.replicate_append_replicate, Nat.add_sub_cancel' hm]
  unfold repC
  rw [e1, List.append_assoc]
  rw [List.getElem?_append_left (List.getElem?_eq_some_iff.1 hv).1]
  exact hv


theorem made_len (z : Array Value) (n : Nat) : (madeCells z n).toList.length = n := by rw [Array.length_toList, size_madeCells]
/-- One step of the copying. -/
theorem rep_copy {w : World} {g n k m c : Nat} {e : EvR} {Z : List Value} (hZ : Z.length = n * 9) (h : Blk w g 74 (repC e Z k)) (hm : m ≤ k) (hkm : k + m ≤ n) (hmin : Nat.min k (n - k) = m) :
    ∃ w', (Builtin.copy_ #[61, 61] 3 #[.slice (some ⟨g, k * 9, none⟩) (n - k) c, .slice (some ⟨g, 0, none⟩) k n]).run Tryz.prog w = .ok (.int .i64 m) w' ∧ Blk w' g 74 (repC e Z (k + m)) ∧ Below g w w' := by
  have hl := repC_len (e := e) (k := k) hZ (by omega)
  have hrun := run_copy_rows (P := Tryz.prog) w 61 61 3 74 9 g (k * 9) (n - k) c ⟨g, 0, none⟩ k n m _ _ (rows (List.replicate m e)) Tryz.underlying61 ev_size h hmin (rep_len e m) (rep_at h hm) (by rw [rep_len, List.size_toArray, hl]; omega) (rows_one _)
  refine ⟨_, hrun, ?_, below_setRow (Below.refl _ _) (Nat.le_refl _) _⟩
  have hs := setRow_heap w g _ ((repC e Z k).take (k * 9) ++ rows (List.replicate m e) ++ (repC e Z k).drop (k * 9 + (rows (List.replicate m e)).length)).toArray _ _ h
  rw [repC_step] at hs
  have e2 : (repC e Z k).toArray.toList = repC e Z k := rfl
  rw [e2, repC_step]
  exact hs
/-- The first copy. -/
theorem rep_first {w : World} {g g0 n : Nat} {e : EvR} {Z : List Value} (hZ : Z.length = n * 9) (h : Blk w g 74 Z) (h0 : Blk w g0 74 e.cells) :
    ∃ w', (Builtin.copy_ #[61, 61] 3 #[.slice (some ⟨g, 0, none⟩) n n, .slice (some ⟨g0, 0, none⟩) 1 1]).run Tryz.prog w = .ok (.int .i64 (Nat.min 1 n : Nat)) w' ∧ Blk w' g 74 (repC e Z (Nat.min 1 n)) ∧ Below g w w' := by
  have h' : Blk w g 74 (repC e Z 0) := by rw [repC_zero]; exact h
  have hsrc : ∀ j v, (rows (List.replicate (Nat.min 1 n) e))[j]? = some v → w.cell? ((⟨g0, 0, none⟩ : Addr).add j) = some v := by
    intro j v hv
    have ha : (⟨g0, 0, none⟩ : Addr).add j = ⟨g0, j, none⟩ := by unfold Addr.add; split <;> simp_all
    rw [ha]
    refine h0.cell ?_
    by_cases hn : n = 0
    · subst hn
      simp [rows] at hv
    · have : Nat.min 1 n = 1 := by show min 1 n = 1; omega
      rw [this] at hv
      exact hv
  have hml : Nat.min 1 n ≤ n := by show min 1 n ≤ n; omega
  have hrun := run_copy_rows (P := Tryz.prog) w 61 61 3 74 9 g 0 n n ⟨g0, 0, none⟩ 1 1 (Nat.min 1 n) _ _ (rows (List.replicate (Nat.min 1 n) e)) Tryz.underlying61 ev_size h' rfl (rep_len e _) hsrc (by rw [rep_len, List.size_toArray, repC_len hZ (Nat.zero_le _)]; omega) (rows_one _)
  refine ⟨_, hrun, ?_, below_setRow (Below.refl _ _) (Nat.le_refl _) _⟩
  have hs := setRow_heap w g _ ((repC e Z 0).take (0 * 9) ++ rows (List.replicate (Nat.min 1 n) e) ++ (repC e Z 0).drop (0 * 9 + (rows (List.replicate (Nat.min 1 n) e)).length)).toArray _ _ h'
  rw [repC_step, Nat.zero_add] at hs
  have e2 := repC_step (e := e) (Z := Z) (k := 0) (m := Nat.min 1 n)
  rw [Nat.zero_mul, Nat.zero_add, Nat.zero_add] at e2
  have e3 : (repC e Z 0).toArray.toList = repC e Z 0 := rfl
  rw [e3, Nat.zero_add, e2]
  exact hs

set_option maxHeartbeats 4000000 in
set_option maxRecDepth 100000 in
theorem Repeat_any (e : EvR) (g0 n : Nat) (W : World) (hn : n ≤ 1000) (hB : Blk W g0 74 e.cells) :
    Calls Tryz.prog 83 #[.slice (some ⟨g0, 0, none⟩) 1 1, .int .i64 n] W fun e' w' => ∃ g, e' = .returned (.slice (some ⟨g, 0, none⟩) n n) ∧ Blk w' g 74 (rows (List.replicate n e)) ∧ Below W.heap.size W w' := by
  have q0 : ¬ (n : Int) < 0 := by omega
  have HMU := Lib.hid (Tryz.bits_Mul 1 n (by decide) (by omega) W)
  rw [Nat.one_mul, Nat.div_eq_of_lt (by omega), Nat.mod_eq_of_lt (by omega)] at HMU
  obtain ⟨i, hi, hz, hs, hb⟩ := info_parts ev_info
  have HMK := run_make (P := Tryz.prog) W 61 74 i (evV EvR.none) Tryz.underlying61 hi hz .i64 .i64 n n (by omega) (Int.le_refl _) (by rw [hb]; omega) (by omega)
  rw [hs, Int.toNat_natCast] at HMK
  clear hi hz hs hb i
  go_enter Tryz.func83, Tryz.ntmps83
  go_upto_region 7 with (go_at_call 126; refine HMU.out.mono ?_; rintro er w' ⟨rfl, rfl⟩)
  have HZ := Lib.hid (made_len (evV EvR.none).cells (n * 9))
  have HG := Lib.hid (Blk.new w' 74 (madeCells (evV EvR.none).cells (n * 9)).toList)
  have HG0 := Lib.hid (hB.alloc (.cells (madeCells (evV EvR.none).cells (n * 9)).toList.toArray 74))
  have HB0 := Lib.hid ((Below.refl w'.heap.size w').alloc (Nat.le_refl _) (.cells (madeCells (evV EvR.none).cells (n * 9)).toList.toArray 74))
  have hW : RowKit.Hid (w'.alloc (.cells (madeCells (evV EvR.none).cells (n * 9)).toList.toArray 74) = w'.alloc (.cells (madeCells #[Value.int IntKind.i64 EvR.none.kind, Value.int IntKind.i64 EvR.none.thread, Value.int IntKind.i64 EvR.none.q.kind, Value.int IntKind.i64 EvR.none.q.arg, Value.int IntKind.i64 EvR.none.q.value, Value.bool EvR.none.q.dflt, Value.slice EvR.none.q.A EvR.none.q.n EvR.none.q.c, Value.int IntKind.i64 EvR.none.inn, Value.slice EvR.none.OA EvR.none.on EvR.none.oc] (n * 9)) 74)) := Lib.hid (by rw [Array.toArray_toList]; rfl)
  rw [hW.out] at HG HG0 HB0
  clear hW HMK
  generalize w'.alloc (.cells (madeCells #[Value.int IntKind.i64 EvR.none.kind, Value.int IntKind.i64 EvR.none.thread, Value.int IntKind.i64 EvR.none.q.kind, Value.int IntKind.i64 EvR.none.q.arg, Value.int IntKind.i64 EvR.none.q.value, Value.bool EvR.none.q.dflt, Value.slice EvR.none.q.A EvR.none.q.n EvR.none.q.c, Value.int IntKind.i64 EvR.none.inn, Value.slice EvR.none.OA EvR.none.on EvR.none.oc] (n * 9)) 74) = W1 at *
  generalize (madeCells (evV EvR.none).cells (n * 9)).toList = Z at *
  obtain ⟨W2, hrun, hb2, hw2⟩ := rep_first HZ.out HG.out HG0.out
  have HG2 := Lib.hid hb2
  have HB2 := Lib.hid (HB0.out.trans hw2)
  generalize hge : w'.heap.size = g at *
  have HGE := Lib.hid hge
  clear hge
  clear hb2 hw2
  have hmn : Nat.min 1 n ≤ n := by show min 1 n ≤ n; omega
  have hm1 : n = 0 ∨ 1 ≤ Nat.min 1 n := by show n = 0 ∨ 1 ≤ min 1 n; omega
  have HM1 := Lib.hid hm1
  clear hm1
  generalize Nat.min 1 n = k0 at *
  go_wp2
  clear hrun
  go_loopg [8] (n - k0) (fun gg i wr => ∃ k : Nat, k ≤ n ∧ gg = n - k ∧ i = .int .i64 k ∧ (n = 0 ∨ 1 ≤ k) ∧ Blk wr g 74 (repC e Z k) ∧ Below g w' wr)
  case atStart => exact ⟨k0, hmn, rfl, rfl, HM1.out, HG2.out, HB2.out⟩
  case round =>
    obtain ⟨k, hk, hg, rfl, h1, hbl, hbe⟩ := hrel
    have HQ := Lib.hid hg
    have HH := Lib.hid hbl
    have HE := Lib.hid hbe
    have H1 := Lib.hid h1
    clear hg hbl hbe h1 HG2 HB2
    by_cases hlt : k < n
    · have hk1 : 1 ≤ k := by have := H1.out; omega
      have q1 : (k : Int) < (n : Int) := by omega
      have q2 : (0 : Int) ≤ (k : Int) := by omega
      have q3 : (k : Int) ≤ (n : Int) := by omega
      obtain ⟨m, hm⟩ : ∃ m, Nat.min k (n - k) = m := ⟨_, rfl⟩
      have hm' : min k (n - k) = m := hm
      obtain ⟨W4, hrun, hb4, hw4⟩ := rep_copy (c := n - k) HZ.out HH.out.drew (by omega) (by omega) hm
      have HH4 := Lib.hid hb4
      have HE4 := Lib.hid (HE.out.trans ((Below.drewN' (Below.refl wr.heap.size wr) 1 |>.mono (Nat.le_of_lt HH.out.lt)).trans hw4))
      have q4 : IntKind.i64.wrap ((k : Int) + (m : Int)) = (k : Int) + (m : Int) := by simp (disch := omega) only [IntWalk.i64_in]
      have hm1 : 1 ≤ m := by omega
      have hkm : k + m ≤ n := by omega
      clear hb4 hw4 hm hm'
      go_wp2
      go_region
      clear hrun q4
      go_wp2
      go_roundg (n - (k + m))
      case measure => rw [HQ.out]; omega
      case rel => exact ⟨k + m, hkm, rfl, by go_num, .inr (by omega), HH4.out, HE4.out⟩
    · obtain rfl : k = n := by omega
      have q1 : ¬ (k : Int) < (k : Int) := by omega
      have HV : RowKit.Hid (repC e Z k = rows (List.replicate k e)) := Lib.hid (repC_all HZ.out)
      go_wp2
      go_ret
      have hh := HH.out
      rw [HV.out] at hh
      exact ⟨g, rfl, hh, by rw [HGE.out]; exact HE.out⟩

end Go.Proofs.YtalkllfgedacoaaGreatDoor
