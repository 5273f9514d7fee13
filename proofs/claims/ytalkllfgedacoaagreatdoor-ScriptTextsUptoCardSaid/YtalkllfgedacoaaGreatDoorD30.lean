/- The document's Name of csp, walked: it tells what the program's tells. -/
import Derived.Test.YtalkllfgedacoaaGreatDoorD8
import Derived.Test.YtalkllfgedacoaaGreatDoorD9
import Derived.Test.YtalkllfgedacoaaGreatDoorD10
import Derived.Test.YtalkllfgedacoaaGreatDoorD25
import Derived.Test.YtalkllfgedacoaaGreatDoorD2
namespace Go.Proofs.YtalkllfgedacoaaGreatDoor
open Go.RowKit Go.Sort

set_option maxHeartbeats 8000000 in
set_option maxRecDepth 100000 in
theorem rsame24_any (p q : Reqr) (l r : List Cse) (w : World) (hn : p.n ≤ 4611686018427387904) (hm : q.n ≤ 4611686018427387904) (hp : ReqAt w p l) (hq : ReqAt w q r) :
    Calls Tryz.prog 70 #[reqV p, reqV q] w fun e w' => e = .returned (.bool (p.kind == q.kind && p.arg == q.arg && p.value == q.value && p.dflt == q.dflt && l == r)) ∧ Below w.heap.size w w' := by
  have HL := Lib.hid hp.len
  have HR := Lib.hid hq.len
  have HP := Lib.hid hp.rd
  have HQ := Lib.hid hq.rd
  clear hp hq
  obtain ⟨k1, a1, v1, d1, A1, n1, c1⟩ := p
  obtain ⟨k2, a2, v2, d2, A2, n2, c2⟩ := q
  unfold reqV
  simp only at HL HR HP HQ hn hm ⊢
  by_cases hall : (k1 == k2 && a1 == a2 && v1 == v2 && d1 == d2) = true ∧ n1 = n2
  · obtain ⟨hall, hnn⟩ := hall
    simp only [Bool.and_eq_true, beq_iff_eq] at hall
    obtain ⟨⟨⟨rfl, rfl⟩, rfl⟩, rfl⟩ := hall
    subst hnn
    have X1 := Lib.hid ((blk_new (w := w) (t := 24) (cs := Reqr.cells ⟨k1, a1, v1, d1, A1, n1, c1⟩) rfl).alloc (.cells (Reqr.cells ⟨k1, a1, v1, d1, A2, n1, c2⟩).toArray 24))
    have X2 := Lib.hid (blk_new (w := w.alloc (.cells (Reqr.cells ⟨k1, a1, v1, d1, A1, n1, c1⟩).toArray 24)) (t := 24) (cs := Reqr.cells ⟨k1, a1, v1, d1, A2, n1, c2⟩) rfl)
    have B0 := Lib.hid (((Below.refl w.heap.size w).alloc (Nat.le_refl _) (.cells (Reqr.cells ⟨k1, a1, v1, d1, A1, n1, c1⟩).toArray 24)).alloc (by simp) (.cells (Reqr.cells ⟨k1, a1, v1, d1, A2, n1, c2⟩).toArray 24))
    rw [World.size_alloc] at X2
    go_enter Tryz.func70, Tryz.ntmps70
    go_wp2
    have hW : RowKit.Hid ((w.alloc (.cells (Reqr.cells ⟨k1, a1, v1, d1, A1, n1, c1⟩).toArray 24)).alloc (.cells (Reqr.cells ⟨k1, a1, v1, d1, A2, n1, c2⟩).toArray 24) = (w.alloc (.cells #[.int .i64 k1, .int .i64 a1, .int .i64 v1, .bool d1, .slice A1 n1 c1] 24)).alloc (.cells #[.int .i64 k1, .int .i64 a1, .int .i64 v1, .bool d1, .slice A2 n1 c2] 24)) := Lib.hid rfl
    rw [hW.out] at X1 X2 B0
    clear hW
    generalize (w.alloc (.cells #[.int .i64 k1, .int .i64 a1, .int .i64 v1, .bool d1, .slice A1 n1 c1] 24)).alloc (.cells #[.int .i64 k1, .int .i64 a1, .int .i64 v1, .bool d1, .slice A2 n1 c2] 24) = W0 at *
    generalize hb1 : w.heap.size = b1 at *
    have HB1 := Lib.hid hb1
    clear hb1
    go_loopw [44] (fun i wr => ∃ k : Nat, k ≤ n1 ∧ i = .int .i64 k ∧ l.take k = r.take k ∧ Below W0.heap.size W0 wr) (fun i _ => n1 - (intOf i).toNat)
    case atStart => exact ⟨0, Nat.zero_le _, rfl, rfl, Below.refl _ _⟩
    case round =>
      obtain ⟨k, hk, rfl, htk, hb⟩ := hrel
      have HBW := Lib.hid hb
      have HTK := Lib.hid htk
      have xx := (X1.out.below hb X1.out.lt).cell (i := 4) rfl
      have yy := (X2.out.below hb X2.out.lt).cell (i := 4) rfl
      have hx1 := (X1.out.below hb X1.out.lt).lt
      have hx2 := (X2.out.below hb X2.out.lt).lt
      have HBZ := Lib.hid (B0.out.trans (hb.mono (by have := B0.out.size; have := HB1.out; omega)))
      clear hb htk
      by_cases hlt : k < n1
      · have hkl : k < l.length := by rw [HL.out]; exact hlt
        have hkr : k < r.length := by rw [HR.out]; exact hlt
        obtain ⟨g1, o1, rfl, hl1, hc1⟩ := HP.out.at_ (by rw [rows_length]; exact Nat.mul_pos (by omega) (by decide))
        obtain ⟨g2, o2, rfl, hl2, hc2⟩ := HQ.out.at_ (by rw [rows_length]; exact Nat.mul_pos (by omega) (by decide))
        have hBW : Below w.heap.size w wr := HB1.out ▸ HBZ.out
        have hd1 : ∀ j v, (rows l)[j]? = some v → wr.cell? ⟨g1, o1 + j, none⟩ = some v := fun j v hj => by
          rw [hBW.cell (p := ⟨g1, o1 + j, none⟩) hl1]; exact hc1 j v hj
        have hd2 : ∀ j v, (rows r)[j]? = some v → wr.cell? ⟨g2, o2 + j, none⟩ = some v := fun j v hj => by
          rw [hBW.cell (p := ⟨g2, o2 + j, none⟩) hl2]; exact hc2 j v hj
        obtain ⟨x0, x1, x2⟩ := cse_cells hd1 hkl rfl
        obtain ⟨y0, y1, y2⟩ := cse_cells hd2 hkr rfl
        have HST := Lib.hid (take_eq_step hkl hkr HTK.out)
        generalize l.getD k Cse.none = x at *
        generalize r.getD k Cse.none = y at *
        have hne := neq_cse x y
        unfold cseV at hne
        clear hc1 hc2 hd1 hd2 hkl hkr hBW
        have q1 : (0 : Int) ≤ (k : Int) := by omega
        have q2 : (k : Int) < (n1 : Int) := by omega
        by_cases hxy : x = y
        · have HXY := Lib.hid (HST.out.2 hxy)
          rw [decide_eq_true hxy] at hne
          clear hxy
          go_wp2
          go_quiet (fail)
          go_wp2
          exact ⟨⟨k + 1, by omega, by go_num, HXY.out, Below.drewN' HBW.out nq⟩, by simp [intOf]; omega⟩
        · have HXY : RowKit.Hid (¬ l = r) := Lib.hid (fun e => hxy (HST.out.1 (by rw [e])))
          rw [decide_eq_false hxy] at hne
          clear hxy
          go_wp2
          go_quiet (fail)
          go_wp2
          go_ret
          exact ⟨by rw [show (l == r) = false from beq_eq_false_iff_ne.2 HXY.out]; simp, Below.drewN' (HB1.out ▸ HBZ.out) nq⟩
      · obtain rfl : k = n1 := by omega
        have HE : RowKit.Hid (l = r) := Lib.hid (by
          have := HTK.out
          rwa [List.take_of_length_le (by rw [HL.out]; exact Nat.le_refl _), List.take_of_length_le (by rw [HR.out]; exact Nat.le_refl _)] at this)
        go_wp2
        go_ret
        exact ⟨by rw [HE.out]; simp, HB1.out ▸ HBZ.out⟩
  · have HE : RowKit.Hid ((k1 == k2 && a1 == a2 && v1 == v2 && d1 == d2 && l == r) = false) := Lib.hid (by
      rw [Bool.eq_false_iff]
      intro e
      rw [Bool.and_eq_true] at e
      refine hall ⟨e.1, ?_⟩
      rw [← HL.out, ← HR.out, beq_iff_eq.1 e.2])
    have B0 := Lib.hid (((Below.refl w.heap.size w).alloc (Nat.le_refl _) (.cells (Reqr.cells ⟨k1, a1, v1, d1, A1, n1, c1⟩).toArray 24)).alloc (by simp) (.cells (Reqr.cells ⟨k2, a2, v2, d2, A2, n2, c2⟩).toArray 24))
    rw [HE.out]
    cases hk : (k1 == k2)
    case false =>
      have hk' : (k1 != k2) = true := by rw [bne, hk]; rfl
      go_enter Tryz.func70, Tryz.ntmps70
      go_wp2
      go_ret
      exact ⟨rfl, B0.out⟩
    case true =>
      have hk' : (k1 != k2) = false := by rw [bne, hk]; rfl
      cases ha : (a1 == a2)
      case false =>
        have ha' : (a1 != a2) = true := by rw [bne, ha]; rfl
        go_enter Tryz.func70, Tryz.ntmps70
        go_wp2
        go_ret
        exact ⟨rfl, B0.out⟩
      case true =>
        have ha' : (a1 != a2) = false := by rw [bne, ha]; rfl
        cases hv : (v1 == v2)
        case false =>
          have hv' : (v1 != v2) = true := by rw [bne, hv]; rfl
          go_enter Tryz.func70, Tryz.ntmps70
          go_wp2
          go_ret
          exact ⟨rfl, B0.out⟩
        case true =>
          have hv' : (v1 != v2) = false := by rw [bne, hv]; rfl
          cases hd : (d1 == d2)
          case false =>
            have hd' : (d1 != d2) = true := by rw [bne, hd]; rfl
            go_enter Tryz.func70, Tryz.ntmps70
            go_wp2
            go_ret
            exact ⟨rfl, B0.out⟩
          case true =>
            have hd' : (d1 != d2) = false := by rw [bne, hd]; rfl
            have hnn : ¬ n1 = n2 := fun e => hall ⟨by rw [hk, ha, hv, hd]; rfl, e⟩
            have hn' : ((n1 : Int) == (n2 : Int)) = false := by rw [beq_eq_false_iff_ne]; omega
            have hn'' : ((n1 : Int) != (n2 : Int)) = true := by rw [bne_iff_ne]; omega
            clear hall
            go_enter Tryz.func70, Tryz.ntmps70
            go_wp2
            go_ret
            exact ⟨rfl, B0.out⟩

end Go.Proofs.YtalkllfgedacoaaGreatDoor

namespace Go.Proofs.YtalkllfgedacoaaGreatDoor
open Go.RowKit Go.Sort

set_option maxHeartbeats 4000000 in
set_option maxRecDepth 100000 in
theorem revSame_any (a b : EvR) (x y : Ev) (w : World) (ha : EvAt w a x) (hb : EvAt w b y) (sa : a.Small) (sb : b.Small) :
    Calls Tryz.prog 61 #[evV a, evV b] w fun e w' => e = .returned (.bool (decide (x = y))) ∧ Below w.heap.size w w' := by
  have HV := Lib.hid (ev_eq ha hb)
  have hl1 := ha.len
  have hl2 := hb.len
  have HRQ := Lib.hid (fun W (h : Below w.heap.size w W) => rsame24_any a.q b.q x.rq.cs y.rq.cs W (Nat.le_trans sa.n (by decide)) (Nat.le_trans sb.n (by decide)) (ha.req.below h) (hb.req.below h))
  have HA := Lib.hid ha.rd
  have HB := Lib.hid hb.rd
  have hon := sa.on
  have hon2 := sb.on
  obtain ⟨k1, t1, ⟨qk1, qa1, qv1, qd1, QA1, qn1, qc1⟩, i1, OA1, on1, oc1⟩ := a
  obtain ⟨k2, t2, ⟨qk2, qa2, qv2, qd2, QA2, qn2, qc2⟩, i2, OA2, on2, oc2⟩ := b
  unfold reqV at HRQ
  simp only at HV HRQ HA HB hl1 hl2 hon hon2
  have HL1 := Lib.hid hl1
  have HL2 := Lib.hid hl2
  clear ha hb sa sb hl1 hl2
  generalize (qk1 == qk2 && qa1 == qa2 && qv1 == qv2 && qd1 == qd2 && x.rq.cs == y.rq.cs) = rb at *
  generalize decide (x = y) = V at *
  generalize x.outs = os1 at *
  generalize y.outs = os2 at *
  have HX1 : RowKit.Hid (Blk ((w.alloc (.cells #[.int .i64 k1, .int .i64 t1, .int .i64 qk1, .int .i64 qa1, .int .i64 qv1, .bool qd1, .slice QA1 qn1 qc1, .int .i64 i1, .slice OA1 on1 oc1] 74)).alloc (.cells #[.int .i64 k2, .int .i64 t2, .int .i64 qk2, .int .i64 qa2, .int .i64 qv2, .bool qd2, .slice QA2 qn2 qc2, .int .i64 i2, .slice OA2 on2 oc2] 74)) w.heap.size 74 [.int .i64 k1, .int .i64 t1, .int .i64 qk1, .int .i64 qa1, .int .i64 qv1, .bool qd1, .slice QA1 qn1 qc1, .int .i64 i1, .slice OA1 on1 oc1]) := Lib.hid ((Blk.new w _ _).alloc _)
  have HX2 : RowKit.Hid (Blk ((w.alloc (.cells #[.int .i64 k1, .int .i64 t1, .int .i64 qk1, .int .i64 qa1, .int .i64 qv1, .bool qd1, .slice QA1 qn1 qc1, .int .i64 i1, .slice OA1 on1 oc1] 74)).alloc (.cells #[.int .i64 k2, .int .i64 t2, .int .i64 qk2, .int .i64 qa2, .int .i64 qv2, .bool qd2, .slice QA2 qn2 qc2, .int .i64 i2, .slice OA2 on2 oc2] 74)) (w.heap.size + 1) 74 [.int .i64 k2, .int .i64 t2, .int .i64 qk2, .int .i64 qa2, .int .i64 qv2, .bool qd2, .slice QA2 qn2 qc2, .int .i64 i2, .slice OA2 on2 oc2]) := Lib.hid (blk_new (by simp))
  have HB0 := Lib.hid (((Below.refl w.heap.size w).alloc (Nat.le_refl _) (.cells #[.int .i64 k1, .int .i64 t1, .int .i64 qk1, .int .i64 qa1, .int .i64 qv1, .bool qd1, .slice QA1 qn1 qc1, .int .i64 i1, .slice OA1 on1 oc1] 74)).alloc (by simp) (.cells #[.int .i64 k2, .int .i64 t2, .int .i64 qk2, .int .i64 qa2, .int .i64 qv2, .bool qd2, .slice QA2 qn2 qc2, .int .i64 i2, .slice OA2 on2 oc2] 74))
  by_cases e1 : k1 = k2
  case neg =>
    have b1 : (k1 == k2) = false := beq_eq_false_iff_ne.2 e1
    have c1 : (k1 != k2) = true := bne_iff_ne.2 e1
    have HV1 : RowKit.Hid (V = false) := Lib.hid (by rw [HV.out, b1]; rfl)
    clear HV e1
    go_enter Tryz.func61, Tryz.ntmps61
    go_upto_region 1 with (fail)
    generalize (w.alloc (.cells #[.int .i64 k1, .int .i64 t1, .int .i64 qk1, .int .i64 qa1, .int .i64 qv1, .bool qd1, .slice QA1 qn1 qc1, .int .i64 i1, .slice OA1 on1 oc1] 74)).alloc (.cells #[.int .i64 k2, .int .i64 t2, .int .i64 qk2, .int .i64 qa2, .int .i64 qv2, .bool qd2, .slice QA2 qn2 qc2, .int .i64 i2, .slice OA2 on2 oc2] 74) = W0 at *
    have z0 := HX1.out.cell (i := 0) rfl
    have u0 := HX2.out.cell (i := 0) rfl
    have z1 := HX1.out.cell (i := 1) rfl
    have u1 := HX2.out.cell (i := 1) rfl
    have z2 := HX1.out.cell (i := 2) rfl
    have u2 := HX2.out.cell (i := 2) rfl
    have z3 := HX1.out.cell (i := 3) rfl
    have u3 := HX2.out.cell (i := 3) rfl
    have z4 := HX1.out.cell (i := 4) rfl
    have u4 := HX2.out.cell (i := 4) rfl
    have z5 := HX1.out.cell (i := 5) rfl
    have u5 := HX2.out.cell (i := 5) rfl
    have z6 := HX1.out.cell (i := 6) rfl
    have u6 := HX2.out.cell (i := 6) rfl
    have z7 := HX1.out.cell (i := 7) rfl
    have u7 := HX2.out.cell (i := 7) rfl
    have z8 := HX1.out.cell (i := 8) rfl
    have u8 := HX2.out.cell (i := 8) rfl
    have hw1 := HX1.out.lt
    have hw2 := HX2.out.lt
    go_wp2_with fail
    go_ret
    exact ⟨by rw [HV1.out]; rfl, HB0.out⟩
  have b1 : (k1 == k2) = true := beq_iff_eq.2 e1
  have c1 : (k1 != k2) = false := by rw [bne, b1]; rfl
  by_cases e2 : t1 = t2
  case neg =>
    have b2 : (t1 == t2) = false := beq_eq_false_iff_ne.2 e2
    have c2 : (t1 != t2) = true := bne_iff_ne.2 e2
    have HV1 : RowKit.Hid (V = false) := Lib.hid (by rw [HV.out, b1, b2]; rfl)
    clear HV e1 e2
    go_enter Tryz.func61, Tryz.ntmps61
    go_upto_region 1 with (fail)
    generalize (w.alloc (.cells #[.int .i64 k1, .int .i64 t1, .int .i64 qk1, .int .i64 qa1, .int .i64 qv1, .bool qd1, .slice QA1 qn1 qc1, .int .i64 i1, .slice OA1 on1 oc1] 74)).alloc (.cells #[.int .i64 k2, .int .i64 t2, .int .i64 qk2, .int .i64 qa2, .int .i64 qv2, .bool qd2, .slice QA2 qn2 qc2, .int .i64 i2, .slice OA2 on2 oc2] 74) = W0 at *
    have z0 := HX1.out.cell (i := 0) rfl
    have u0 := HX2.out.cell (i := 0) rfl
    have z1 := HX1.out.cell (i := 1) rfl
    have u1 := HX2.out.cell (i := 1) rfl
    have z2 := HX1.out.cell (i := 2) rfl
    have u2 := HX2.out.cell (i := 2) rfl
    have z3 := HX1.out.cell (i := 3) rfl
    have u3 := HX2.out.cell (i := 3) rfl
    have z4 := HX1.out.cell (i := 4) rfl
    have u4 := HX2.out.cell (i := 4) rfl
    have z5 := HX1.out.cell (i := 5) rfl
    have u5 := HX2.out.cell (i := 5) rfl
    have z6 := HX1.out.cell (i := 6) rfl
    have u6 := HX2.out.cell (i := 6) rfl
    have z7 := HX1.out.cell (i := 7) rfl
    have u7 := HX2.out.cell (i := 7) rfl
    have z8 := HX1.out.cell (i := 8) rfl
    have u8 := HX2.out.cell (i := 8) rfl
    have hw1 := HX1.out.lt
    have hw2 := HX2.out.lt
    go_wp2_with fail
    go_ret
    exact ⟨by rw [HV1.out]; rfl, HB0.out⟩
  have b2 : (t1 == t2) = true := beq_iff_eq.2 e2
  have c2 : (t1 != t2) = false := by rw [bne, b2]; rfl
  cases rb with
  | false =>
    have HV1 : RowKit.Hid (V = false) := Lib.hid (by rw [HV.out, b1, b2]; rfl)
    clear HV e1 e2
    go_enter Tryz.func61, Tryz.ntmps61
    go_upto_region 1 with (fail)
    generalize (w.alloc (.cells #[.int .i64 k1, .int .i64 t1, .int .i64 qk1, .int .i64 qa1, .int .i64 qv1, .bool qd1, .slice QA1 qn1 qc1, .int .i64 i1, .slice OA1 on1 oc1] 74)).alloc (.cells #[.int .i64 k2, .int .i64 t2, .int .i64 qk2, .int .i64 qa2, .int .i64 qv2, .bool qd2, .slice QA2 qn2 qc2, .int .i64 i2, .slice OA2 on2 oc2] 74) = W0 at *
    have z0 := HX1.out.cell (i := 0) rfl
    have u0 := HX2.out.cell (i := 0) rfl
    have z1 := HX1.out.cell (i := 1) rfl
    have u1 := HX2.out.cell (i := 1) rfl
    have z2 := HX1.out.cell (i := 2) rfl
    have u2 := HX2.out.cell (i := 2) rfl
    have z3 := HX1.out.cell (i := 3) rfl
    have u3 := HX2.out.cell (i := 3) rfl
    have z4 := HX1.out.cell (i := 4) rfl
    have u4 := HX2.out.cell (i := 4) rfl
    have z5 := HX1.out.cell (i := 5) rfl
    have u5 := HX2.out.cell (i := 5) rfl
    have z6 := HX1.out.cell (i := 6) rfl
    have u6 := HX2.out.cell (i := 6) rfl
    have z7 := HX1.out.cell (i := 7) rfl
    have u7 := HX2.out.cell (i := 7) rfl
    have z8 := HX1.out.cell (i := 8) rfl
    have u8 := HX2.out.cell (i := 8) rfl
    have hw1 := HX1.out.lt
    have hw2 := HX2.out.lt
    go_wp2_with (go_at_call 70; refine (HRQ.out _ HB0.out).mono ?_; rintro er w1 ⟨rfl, hb1⟩; have HB1 := Lib.hid (HB0.out.trans (hb1.mono HB0.out.size)); have HY1 := Lib.hid (HX1.out.below hb1 HX1.out.lt); have HY2 := Lib.hid (HX2.out.below hb1 HX2.out.lt); have y1 := HY1.out.cell (i := 7) rfl; have y2 := HY2.out.cell (i := 7) rfl; have y3 := HY1.out.cell (i := 8) rfl; have y4 := HY2.out.cell (i := 8) rfl; have hg1 := HY1.out.lt; have hg2 := HY2.out.lt; clear hb1)
    go_ret
    exact ⟨by rw [HV1.out]; rfl, HB1.out⟩
  | true =>
    by_cases e3 : i1 = i2
    case neg =>
      have b3 : (i1 == i2) = false := beq_eq_false_iff_ne.2 e3
      have c3 : (i1 != i2) = true := bne_iff_ne.2 e3
      have HV1 : RowKit.Hid (V = false) := Lib.hid (by rw [HV.out, b1, b2, b3]; rfl)
      clear HV e1 e2 e3
      go_enter Tryz.func61, Tryz.ntmps61
      go_upto_region 1 with (fail)
      generalize (w.alloc (.cells #[.int .i64 k1, .int .i64 t1, .int .i64 qk1, .int .i64 qa1, .int .i64 qv1, .bool qd1, .slice QA1 qn1 qc1, .int .i64 i1, .slice OA1 on1 oc1] 74)).alloc (.cells #[.int .i64 k2, .int .i64 t2, .int .i64 qk2, .int .i64 qa2, .int .i64 qv2, .bool qd2, .slice QA2 qn2 qc2, .int .i64 i2, .slice OA2 on2 oc2] 74) = W0 at *
      have z0 := HX1.out.cell (i := 0) rfl
      have u0 := HX2.out.cell (i := 0) rfl
      have z1 := HX1.out.cell (i := 1) rfl
      have u1 := HX2.out.cell (i := 1) rfl
      have z2 := HX1.out.cell (i := 2) rfl
      have u2 := HX2.out.cell (i := 2) rfl
      have z3 := HX1.out.cell (i := 3) rfl
      have u3 := HX2.out.cell (i := 3) rfl
      have z4 := HX1.out.cell (i := 4) rfl
      have u4 := HX2.out.cell (i := 4) rfl
      have z5 := HX1.out.cell (i := 5) rfl
      have u5 := HX2.out.cell (i := 5) rfl
      have z6 := HX1.out.cell (i := 6) rfl
      have u6 := HX2.out.cell (i := 6) rfl
      have z7 := HX1.out.cell (i := 7) rfl
      have u7 := HX2.out.cell (i := 7) rfl
      have z8 := HX1.out.cell (i := 8) rfl
      have u8 := HX2.out.cell (i := 8) rfl
      have hw1 := HX1.out.lt
      have hw2 := HX2.out.lt
      go_wp2_with (go_at_call 70; refine (HRQ.out _ HB0.out).mono ?_; rintro er w1 ⟨rfl, hb1⟩; have HB1 := Lib.hid (HB0.out.trans (hb1.mono HB0.out.size)); have HY1 := Lib.hid (HX1.out.below hb1 HX1.out.lt); have HY2 := Lib.hid (HX2.out.below hb1 HX2.out.lt); have y1 := HY1.out.cell (i := 7) rfl; have y2 := HY2.out.cell (i := 7) rfl; have y3 := HY1.out.cell (i := 8) rfl; have y4 := HY2.out.cell (i := 8) rfl; have hg1 := HY1.out.lt; have hg2 := HY2.out.lt; clear hb1)
      go_ret
      exact ⟨by rw [HV1.out]; rfl, HB1.out⟩
    have b3 : (i1 == i2) = true := beq_iff_eq.2 e3
    have c3 : (i1 != i2) = false := by rw [bne, b3]; rfl
    have HVO : RowKit.Hid (V = (os1 == os2)) := Lib.hid (by rw [HV.out, b1, b2, b3]; rfl)
    clear HV e1 e2 e3
    by_cases e4 : on1 = on2
    case neg =>
      have b4 : ((on1 : Int) == (on2 : Int)) = false := beq_eq_false_iff_ne.2 (by omega)
      have c4 : ((on1 : Int) != (on2 : Int)) = true := bne_iff_ne.2 (by omega)
      have HV1 : RowKit.Hid (V = false) := Lib.hid (by rw [HVO.out]; exact beq_eq_false_iff_ne.2 (fun h => e4 (by rw [← HL1.out, ← HL2.out, h])))
      clear HVO e4
      go_enter Tryz.func61, Tryz.ntmps61
      go_upto_region 1 with (fail)
      generalize (w.alloc (.cells #[.int .i64 k1, .int .i64 t1, .int .i64 qk1, .int .i64 qa1, .int .i64 qv1, .bool qd1, .slice QA1 qn1 qc1, .int .i64 i1, .slice OA1 on1 oc1] 74)).alloc (.cells #[.int .i64 k2, .int .i64 t2, .int .i64 qk2, .int .i64 qa2, .int .i64 qv2, .bool qd2, .slice QA2 qn2 qc2, .int .i64 i2, .slice OA2 on2 oc2] 74) = W0 at *
      have z0 := HX1.out.cell (i := 0) rfl
      have u0 := HX2.out.cell (i := 0) rfl
      have z1 := HX1.out.cell (i := 1) rfl
      have u1 := HX2.out.cell (i := 1) rfl
      have z2 := HX1.out.cell (i := 2) rfl
      have u2 := HX2.out.cell (i := 2) rfl
      have z3 := HX1.out.cell (i := 3) rfl
      have u3 := HX2.out.cell (i := 3) rfl
      have z4 := HX1.out.cell (i := 4) rfl
      have u4 := HX2.out.cell (i := 4) rfl
      have z5 := HX1.out.cell (i := 5) rfl
      have u5 := HX2.out.cell (i := 5) rfl
      have z6 := HX1.out.cell (i := 6) rfl
      have u6 := HX2.out.cell (i := 6) rfl
      have z7 := HX1.out.cell (i := 7) rfl
      have u7 := HX2.out.cell (i := 7) rfl
      have z8 := HX1.out.cell (i := 8) rfl
      have u8 := HX2.out.cell (i := 8) rfl
      have hw1 := HX1.out.lt
      have hw2 := HX2.out.lt
      go_wp2_with (go_at_call 70; refine (HRQ.out _ HB0.out).mono ?_; rintro er w1 ⟨rfl, hb1⟩; have HB1 := Lib.hid (HB0.out.trans (hb1.mono HB0.out.size)); have HY1 := Lib.hid (HX1.out.below hb1 HX1.out.lt); have HY2 := Lib.hid (HX2.out.below hb1 HX2.out.lt); have y1 := HY1.out.cell (i := 7) rfl; have y2 := HY2.out.cell (i := 7) rfl; have y3 := HY1.out.cell (i := 8) rfl; have y4 := HY2.out.cell (i := 8) rfl; have hg1 := HY1.out.lt; have hg2 := HY2.out.lt; clear hb1)
      go_ret
      exact ⟨by rw [HV1.out]; rfl, HB1.out⟩
    subst e4
    go_enter Tryz.func61, Tryz.ntmps61
    go_upto_region 1 with (fail)
    generalize (w.alloc (.cells #[.int .i64 k1, .int .i64 t1, .int .i64 qk1, .int .i64 qa1, .int .i64 qv1, .bool qd1, .slice QA1 qn1 qc1, .int .i64 i1, .slice OA1 on1 oc1] 74)).alloc (.cells #[.int .i64 k2, .int .i64 t2, .int .i64 qk2, .int .i64 qa2, .int .i64 qv2, .bool qd2, .slice QA2 qn2 qc2, .int .i64 i2, .slice OA2 on1 oc2] 74) = W0 at *
    have z0 := HX1.out.cell (i := 0) rfl
    have u0 := HX2.out.cell (i := 0) rfl
    have z1 := HX1.out.cell (i := 1) rfl
    have u1 := HX2.out.cell (i := 1) rfl
    have z2 := HX1.out.cell (i := 2) rfl
    have u2 := HX2.out.cell (i := 2) rfl
    have z3 := HX1.out.cell (i := 3) rfl
    have u3 := HX2.out.cell (i := 3) rfl
    have z4 := HX1.out.cell (i := 4) rfl
    have u4 := HX2.out.cell (i := 4) rfl
    have z5 := HX1.out.cell (i := 5) rfl
    have u5 := HX2.out.cell (i := 5) rfl
    have z6 := HX1.out.cell (i := 6) rfl
    have u6 := HX2.out.cell (i := 6) rfl
    have z7 := HX1.out.cell (i := 7) rfl
    have u7 := HX2.out.cell (i := 7) rfl
    have z8 := HX1.out.cell (i := 8) rfl
    have u8 := HX2.out.cell (i := 8) rfl
    have hw1 := HX1.out.lt
    have hw2 := HX2.out.lt
    go_wp2_with (go_at_call 70; refine (HRQ.out _ HB0.out).mono ?_; rintro er w1 ⟨rfl, hb1⟩; have HB1 := Lib.hid (HB0.out.trans (hb1.mono HB0.out.size)); have HY1 := Lib.hid (HX1.out.below hb1 HX1.out.lt); have HY2 := Lib.hid (HX2.out.below hb1 HX2.out.lt); have y1 := HY1.out.cell (i := 7) rfl; have y2 := HY2.out.cell (i := 7) rfl; have y3 := HY1.out.cell (i := 8) rfl; have y4 := HY2.out.cell (i := 8) rfl; have hg1 := HY1.out.lt; have hg2 := HY2.out.lt; clear hb1)
    clear hw1 hw2 z0 u0 z1 u1 z2 u2 z3 u3 z4 u4 z5 u5 z6 u6 z7 u7 z8 u8 y1 y2 y3 y4
    go_loopg [45] on1 (fun gg i wr => ∃ k : Nat, k ≤ on1 ∧ gg = on1 - k ∧ i = .int .i64 k ∧ os1.take k = os2.take k ∧ Below w1.heap.size w1 wr)
    case atStart => exact ⟨0, Nat.zero_le _, rfl, rfl, rfl, Below.refl _ _⟩
    case round =>
      obtain ⟨k, hk, hg, rfl, ht, hb⟩ := hrel
      have HG := Lib.hid hg
      have HT := Lib.hid ht
      have HW := Lib.hid hb
      have HWW := Lib.hid (HB1.out.trans (hb.mono HB1.out.size))
      have hx1 := HY1.out.below hb hg1
      have hx2 := HY2.out.below hb hg2
      have y3 := hx1.cell (i := 8) rfl
      have y4 := hx2.cell (i := 8) rfl
      have hl1 := hx1.lt
      have hl2 := hx2.lt
      clear hg ht hb hx1 hx2
      by_cases hlt : k < on1
      · obtain ⟨a1, o1, rfl, ha1, hc1⟩ := (HA.out.below HWW.out).at_ (by rw [ints_length, HL1.out]; omega)
        obtain ⟨a2, o2, rfl, ha2, hc2⟩ := (HB.out.below HWW.out).at_ (by rw [ints_length, HL2.out]; omega)
        have x1 := hc1 k _ (ints_at (by rw [HL1.out]; exact hlt))
        have x2 := hc2 k _ (ints_at (by rw [HL2.out]; exact hlt))
        clear hc1 hc2
        have q1 : (0 : Int) ≤ (k : Int) := by omega
        have q2 : (k : Int) < (on1 : Int) := by omega
        generalize hx : os1.getD k 0 = x at *
        generalize hy : os2.getD k 0 = y at *
        have HXE := Lib.hid hx
        have HYE := Lib.hid hy
        clear hx hy
        by_cases hxy : x = y
        · subst hxy
          have hne : (x != x) = false := by simp
          go_wp2_with fail
          go_quiet (fail)
          go_wp2_with fail
          go_roundg (on1 - (k + 1))
          case measure => rw [HG.out]; omega
          case rel => exact ⟨k + 1, by omega, rfl, by go_num, take_snoc_eq os1 os2 0 k (by rw [HL1.out]; exact hlt) (by rw [HL2.out]; exact hlt) HT.out (by rw [HXE.out, HYE.out]), Below.drewN' HW.out nq⟩
        · have hne : (x != y) = true := by simp [hxy]
          have HXY := Lib.hid hxy
          clear hxy
          go_wp2_with fail
          go_quiet (fail)
          go_wp2_with fail
          go_ret
          exact ⟨by rw [HVO.out]; exact ret_bool (ne_of_getD os1 os2 0 k (by rw [HXE.out, HYE.out]; exact HXY.out)).symm, Below.drewN' HWW.out nq⟩
      · obtain rfl : k = on1 := by omega
        have q2 : ¬ (k : Int) < (k : Int) := by omega
        have HE : RowKit.Hid (os1 = os2) := Lib.hid (by
          have := HT.out
          rwa [List.take_of_length_le (by rw [HL1.out]; exact Nat.le_refl _), List.take_of_length_le (by rw [HL2.out]; exact Nat.le_refl _)] at this)
        go_wp2_with fail
        go_ret
        exact ⟨by rw [HVO.out, HE.out]; simp, HWW.out⟩

set_option maxHeartbeats 4000000 in
set_option maxRecDepth 100000 in
theorem rplain_any (a : EvR) (x : Ev) (w : World) (ha : EvAt w a x) (sa : a.Small) :
    Calls Tryz.prog 96 #[evV a] w fun e w' => e = .returned (.bool (decide (x.kind = 1) && decide (x = evPick x.thread))) ∧ Below w.heap.size w w' := by
  have HSM := Lib.hid (fun W (h : Below w.heap.size w W) => revSame_any a (evpR x.thread) x (evPick x.thread) W (ha.below h) (EvAt.none W 1 x.thread) sa ⟨Nat.zero_le _, Nat.zero_le _⟩)
  have hk := ha.kind
  have ht := ha.thread
  obtain ⟨k1, t1, ⟨qk1, qa1, qv1, qd1, QA1, qn1, qc1⟩, i1, OA1, on1, oc1⟩ := a
  unfold evpR at HSM
  simp only at HSM hk ht
  rw [← ht] at HSM ⊢
  rw [← hk]
  clear ha sa hk ht
  generalize decide (x = evPick t1) = V at *
  have HX1 : RowKit.Hid (Blk (w.alloc (.cells #[.int .i64 k1, .int .i64 t1, .int .i64 qk1, .int .i64 qa1, .int .i64 qv1, .bool qd1, .slice QA1 qn1 qc1, .int .i64 i1, .slice OA1 on1 oc1] 74)) w.heap.size 74 [.int .i64 k1, .int .i64 t1, .int .i64 qk1, .int .i64 qa1, .int .i64 qv1, .bool qd1, .slice QA1 qn1 qc1, .int .i64 i1, .slice OA1 on1 oc1]) := Lib.hid (Blk.new w _ _)
  have HB0 := Lib.hid ((Below.refl w.heap.size w).alloc (Nat.le_refl _) (.cells #[.int .i64 k1, .int .i64 t1, .int .i64 qk1, .int .i64 qa1, .int .i64 qv1, .bool qd1, .slice QA1 qn1 qc1, .int .i64 i1, .slice OA1 on1 oc1] 74))
  by_cases e1 : k1 = 1
  · have b1 : (k1 == 1) = true := beq_iff_eq.2 e1
    have HV1 : RowKit.Hid ((decide (k1 = 1) && V) = V) := Lib.hid (by rw [decide_eq_true e1]; rfl)
    rw [HV1.out]
    clear e1 HV1
    go_enter Tryz.func96, Tryz.ntmps96
    go_upto_region 1 with (fail)
    go_wp2_with (go_at_call 61; refine (HSM.out _ HB0.out).mono ?_; rintro er w1 ⟨rfl, hb1⟩; have HB1 := Lib.hid (HB0.out.trans (hb1.mono HB0.out.size)); clear hb1)
    go_ret
    exact ⟨rfl, HB1.out⟩
  · have b1 : (k1 == 1) = false := beq_eq_false_iff_ne.2 e1
    rw [decide_eq_false e1, Bool.false_and]
    clear e1
    go_enter Tryz.func96, Tryz.ntmps96
    go_wp2
    go_ret
    exact ⟨rfl, HB0.out⟩

end Go.Proofs.YtalkllfgedacoaaGreatDoor

namespace Go.Proofs.YtalkllfgedacoaaGreatDoor
open Go.RowKit Go.Sort

set_option maxHeartbeats 4000000 in
set_option maxRecDepth 100000 in
theorem rName_no (q : Reqr) (l : List Cse) (w : World) (hk : ¬ (1 ≤ q.kind ∧ q.kind ≤ 9)) :
    Calls Tryz.prog 67 #[reqV q] w fun e w' => e = .returned (.string (nameS q l)) ∧ Below w.heap.size w w' := by
  have HNS : RowKit.Hid (nameS q l = ⟨#[]⟩) := Lib.hid (by unfold nameS; rw [if_neg (by omega), if_neg (by omega), if_neg (by omega), if_neg (by omega), if_neg (by omega), if_neg (by omega), if_neg (by omega), if_neg (by omega), if_neg (by omega)])
  unfold reqV
  by_cases h1 : q.kind < 1
  · clear hk
    go_enter Tryz.func67, Tryz.ntmps67
    go_wp2
    go_ret
    exact ⟨by rw [HNS.out]; rfl, (Below.refl _ _).alloc (Nat.le_refl _) _⟩
  · have h2 : 9 < q.kind := by omega
    clear hk
    go_enter Tryz.func67, Tryz.ntmps67
    go_wp2
    go_ret
    exact ⟨by rw [HNS.out]; rfl, (Below.refl _ _).alloc (Nat.le_refl _) _⟩

set_option maxHeartbeats 4000000 in
set_option maxRecDepth 100000 in
theorem rName_k1 (q : Reqr) (l : List Cse) (w : World) (hk : q.kind = 1) :
    Calls Tryz.prog 67 #[reqV q] w fun e w' => e = .returned (.string (nameS q l)) ∧ Below w.heap.size w w' := by
  have HNS : RowKit.Hid (nameS q l = ⟨#[109, 97, 107, 101]⟩) := Lib.hid (by unfold nameS; rw [if_neg (by omega), if_pos hk])
  unfold reqV
  rw [hk]
  clear hk
  go_enter Tryz.func67, Tryz.ntmps67
  go_wp2
  go_ret
  exact ⟨by rw [HNS.out]; rfl, ((Below.refl _ _).alloc (Nat.le_refl _) _).alloc (by simp) _⟩

set_option maxHeartbeats 4000000 in
set_option maxRecDepth 100000 in
theorem rName_k2 (q : Reqr) (l : List Cse) (w : World) (hk : q.kind = 2) :
    Calls Tryz.prog 67 #[reqV q] w fun e w' => e = .returned (.string (nameS q l)) ∧ Below w.heap.size w w' := by
  have HNS : RowKit.Hid (nameS q l = ⟨#[102, 114, 101, 101]⟩) := Lib.hid (by unfold nameS; rw [if_neg (by omega), if_neg (by omega), if_pos hk])
  unfold reqV
  rw [hk]
  clear hk
  go_enter Tryz.func67, Tryz.ntmps67
  go_wp2
  go_ret
  exact ⟨by rw [HNS.out]; rfl, ((Below.refl _ _).alloc (Nat.le_refl _) _).alloc (by simp) _⟩

set_option maxHeartbeats 4000000 in
set_option maxRecDepth 100000 in
theorem rName_k4 (q : Reqr) (l : List Cse) (w : World) (hk : q.kind = 4) :
    Calls Tryz.prog 67 #[reqV q] w fun e w' => e = .returned (.string (nameS q l)) ∧ Below w.heap.size w w' := by
  have HNS : RowKit.Hid (nameS q l = ⟨#[99, 108, 111, 115, 101]⟩) := Lib.hid (by unfold nameS; rw [if_neg (by omega), if_neg (by omega), if_neg (by omega), if_pos hk])
  unfold reqV
  rw [hk]
  clear hk
  go_enter Tryz.func67, Tryz.ntmps67
  go_wp2
  go_ret
  exact ⟨by rw [HNS.out]; rfl, ((Below.refl _ _).alloc (Nat.le_refl _) _).alloc (by simp) _⟩

set_option maxHeartbeats 4000000 in
set_option maxRecDepth 100000 in
theorem rName_k5 (q : Reqr) (l : List Cse) (w : World) (hk : q.kind = 5) :
    Calls Tryz.prog 67 #[reqV q] w fun e w' => e = .returned (.string (nameS q l)) ∧ Below w.heap.size w w' := by
  have HNS : RowKit.Hid (nameS q l = ⟨#[108, 101, 110]⟩) := Lib.hid (by unfold nameS; rw [if_neg (by omega), if_neg (by omega), if_neg (by omega), if_neg (by omega), if_pos hk])
  unfold reqV
  rw [hk]
  clear hk
  go_enter Tryz.func67, Tryz.ntmps67
  go_wp2
  go_ret
  exact ⟨by rw [HNS.out]; rfl, ((Below.refl _ _).alloc (Nat.le_refl _) _).alloc (by simp) _⟩

set_option maxHeartbeats 4000000 in
set_option maxRecDepth 100000 in
theorem rName_k6 (q : Reqr) (l : List Cse) (w : World) (hk : q.kind = 6) :
    Calls Tryz.prog 67 #[reqV q] w fun e w' => e = .returned (.string (nameS q l)) ∧ Below w.heap.size w w' := by
  have HNS : RowKit.Hid (nameS q l = ⟨#[99, 97, 112]⟩) := Lib.hid (by unfold nameS; rw [if_neg (by omega), if_neg (by omega), if_neg (by omega), if_neg (by omega), if_neg (by omega), if_pos hk])
  unfold reqV
  rw [hk]
  clear hk
  go_enter Tryz.func67, Tryz.ntmps67
  go_wp2
  go_ret
  exact ⟨by rw [HNS.out]; rfl, ((Below.refl _ _).alloc (Nat.le_refl _) _).alloc (by simp) _⟩

set_option maxHeartbeats 4000000 in
set_option maxRecDepth 100000 in
theorem rName_k7 (q : Reqr) (l : List Cse) (w : World) (hk : q.kind = 7) :
    Calls Tryz.prog 67 #[reqV q] w fun e w' => e = .returned (.string (nameS q l)) ∧ Below w.heap.size w w' := by
  have HNS : RowKit.Hid (nameS q l = ⟨#[99, 97, 110, 99, 101, 108]⟩) := Lib.hid (by unfold nameS; rw [if_neg (by omega), if_neg (by omega), if_neg (by omega), if_neg (by omega), if_neg (by omega), if_neg (by omega), if_pos hk])
  unfold reqV
  rw [hk]
  clear hk
  go_enter Tryz.func67, Tryz.ntmps67
  go_wp2
  go_ret
  exact ⟨by rw [HNS.out]; rfl, ((Below.refl _ _).alloc (Nat.le_refl _) _).alloc (by simp) _⟩

set_option maxHeartbeats 4000000 in
set_option maxRecDepth 100000 in
theorem rName_k8 (q : Reqr) (l : List Cse) (w : World) (hk : q.kind = 8) :
    Calls Tryz.prog 67 #[reqV q] w fun e w' => e = .returned (.string (nameS q l)) ∧ Below w.heap.size w w' := by
  have HNS : RowKit.Hid (nameS q l = ⟨#[112, 117, 116]⟩) := Lib.hid (by unfold nameS; rw [if_neg (by omega), if_neg (by omega), if_neg (by omega), if_neg (by omega), if_neg (by omega), if_neg (by omega), if_neg (by omega), if_pos hk])
  unfold reqV
  rw [hk]
  clear hk
  go_enter Tryz.func67, Tryz.ntmps67
  go_wp2
  go_ret
  exact ⟨by rw [HNS.out]; rfl, ((Below.refl _ _).alloc (Nat.le_refl _) _).alloc (by simp) _⟩

set_option maxHeartbeats 4000000 in
set_option maxRecDepth 100000 in
theorem rName_k9 (q : Reqr) (l : List Cse) (w : World) (hk : q.kind = 9) :
    Calls Tryz.prog 67 #[reqV q] w fun e w' => e = .returned (.string (nameS q l)) ∧ Below w.heap.size w w' := by
  have HNS : RowKit.Hid (nameS q l = ⟨#[116, 97, 107, 101]⟩) := Lib.hid (by unfold nameS; rw [if_neg (by omega), if_neg (by omega), if_neg (by omega), if_neg (by omega), if_neg (by omega), if_neg (by omega), if_neg (by omega), if_neg (by omega), if_pos hk])
  unfold reqV
  rw [hk]
  clear hk
  go_enter Tryz.func67, Tryz.ntmps67
  go_wp2
  go_ret
  exact ⟨by rw [HNS.out]; rfl, ((Below.refl _ _).alloc (Nat.le_refl _) _).alloc (by simp) _⟩

theorem try_send (d : Bool) : tryS d ++ ⟨#[115, 101, 110, 100]⟩ = (if d then ⟨#[116, 114, 121]⟩ ++ ⟨#[115, 101, 110, 100]⟩ else ⟨#[115, 101, 110, 100]⟩ : ByteArray) := by cases d <;> decide +kernel
theorem try_recv (d : Bool) : tryS d ++ ⟨#[114, 101, 99, 118]⟩ = (if d then ⟨#[116, 114, 121]⟩ ++ ⟨#[114, 101, 99, 118]⟩ else ⟨#[114, 101, 99, 118]⟩ : ByteArray) := by cases d <;> decide +kernel

set_option maxHeartbeats 4000000 in
set_option maxRecDepth 100000 in
theorem rName_sel (q : Reqr) (l : List Cse) (w : World) (h : ReqAt w q l) (hk : q.kind = 3) :
    Calls Tryz.prog 67 #[reqV q] w fun e w' => e = .returned (.string (nameS q l)) ∧ Below w.heap.size w w' := by
  have HNS0 : RowKit.Hid (nameS q l = namedS q l) := Lib.hid (by unfold nameS; rw [if_pos hk])
  unfold reqV
  by_cases h1 : q.n = 1
  · obtain ⟨b, o, hA, hbl, hc⟩ := h.rd.at_ (by rw [rows_length, h.len, h1]; decide)
    have hxx : l.getD 0 Cse.none = l.getD 0 Cse.none := rfl
    obtain ⟨c0, _, _⟩ := cse_cells hc (k := 0) (by rw [h.len, h1]; decide) hxx
    simp only [Nat.zero_mul, Nat.add_zero] at c0
    have c0' : ∀ ob, (w.alloc ob).cell? ⟨b, o, none⟩ = some (.int .i64 (l.getD 0 Cse.none).dir) := fun ob => by rw [World.cell?_alloc_lt _ _ _ (by exact hbl)]; exact c0
    have HNS : RowKit.Hid (nameS q l = if (l.getD 0 Cse.none).dir = 1 then tryS q.dflt ++ ⟨#[115, 101, 110, 100]⟩ else if (l.getD 0 Cse.none).dir = 2 then tryS q.dflt ++ ⟨#[114, 101, 99, 118]⟩ else selS) := Lib.hid (by rw [HNS0.out]; unfold namedS; rw [if_pos h1])
    generalize (l.getD 0 Cse.none).dir = d at *
    clear h hxx hc HNS0
    rw [hA, h1, hk]
    clear hk h1
    have hne : ¬ b = w.heap.size := by omega
    by_cases d1 : d = 1
    · have HF : RowKit.Hid (nameS q l = (if q.dflt then ⟨#[116, 114, 121]⟩ ++ ⟨#[115, 101, 110, 100]⟩ else ⟨#[115, 101, 110, 100]⟩ : ByteArray)) := Lib.hid (by rw [HNS.out, if_pos d1, try_send])
      subst d1
      clear HNS
      cases hd : q.dflt
      all_goals
        rw [hd] at HF
        go_enter Tryz.func67, Tryz.ntmps67
        go_wp2
        go_ret
        exact ⟨by rw [HF.out]; rfl, (Below.refl _ _).alloc (Nat.le_refl _) _⟩
    · by_cases d2 : d = 2
      · have HF : RowKit.Hid (nameS q l = (if q.dflt then ⟨#[116, 114, 121]⟩ ++ ⟨#[114, 101, 99, 118]⟩ else ⟨#[114, 101, 99, 118]⟩ : ByteArray)) := Lib.hid (by rw [HNS.out, if_neg d1, if_pos d2, try_recv])
        subst d2
        clear HNS
        cases hd : q.dflt
        all_goals
          rw [hd] at HF
          go_enter Tryz.func67, Tryz.ntmps67
          go_wp2
          go_ret
          exact ⟨by rw [HF.out]; rfl, (Below.refl _ _).alloc (Nat.le_refl _) _⟩
      · have HD := Lib.hid (And.intro d1 d2)
        by_cases d3 : d < 1
        · clear d1 d2
          go_enter Tryz.func67, Tryz.ntmps67
          go_wp2
          go_ret
          exact ⟨by rw [HNS.out, if_neg HD.out.1, if_neg HD.out.2]; rfl, (Below.refl _ _).alloc (Nat.le_refl _) _⟩
        · have d4 : 2 < d := by omega
          clear d1 d2
          go_enter Tryz.func67, Tryz.ntmps67
          go_wp2
          go_ret
          exact ⟨by rw [HNS.out, if_neg HD.out.1, if_neg HD.out.2]; rfl, (Below.refl _ _).alloc (Nat.le_refl _) _⟩
  · have HN := Lib.hid h1
    have b1 : ((q.n : Int) != 1) = true := by simp; omega
    rw [hk]
    clear h hk
    go_enter Tryz.func67, Tryz.ntmps67
    go_wp2
    go_ret
    exact ⟨by rw [HNS0.out]; unfold namedS; rw [if_neg HN.out]; rfl, (Below.refl _ _).alloc (Nat.le_refl _) _⟩

theorem rName_any (q : Reqr) (l : List Cse) (w : World) (h : ReqAt w q l) :
    Calls Tryz.prog 67 #[reqV q] w fun e w' => e = .returned (.string (nameS q l)) ∧ Below w.heap.size w w' := by
  rcases (show q.kind = 3 ∨ q.kind = 1 ∨ q.kind = 2 ∨ q.kind = 4 ∨ q.kind = 5 ∨ q.kind = 6 ∨ q.kind = 7 ∨ q.kind = 8 ∨ q.kind = 9 ∨ ¬ (1 ≤ q.kind ∧ q.kind ≤ 9) by omega) with hk | hk | hk | hk | hk | hk | hk | hk | hk | hk
  · exact rName_sel q l w h hk
  · exact rName_k1 q l w hk
  · exact rName_k2 q l w hk
  · exact rName_k4 q l w hk
  · exact rName_k5 q l w hk
  · exact rName_k6 q l w hk
  · exact rName_k7 q l w hk
  · exact rName_k8 q l w hk
  · exact rName_k9 q l w hk
  · exact rName_no q l w hk

end Go.Proofs.YtalkllfgedacoaaGreatDoor
