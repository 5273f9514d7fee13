/- How threads, notes, changes of the root are opened, as arguments: no more cases, and calls, than the bulk allows. -/
import Derived.Test.YtalkllfgedacoaaGreatDoorO22
import Derived.Test.YtalkllfgedacoaaGreatDoorO6
import Derived.Test.YtalkllfgedacoaaGreatDoorO19
import Derived.Test.YtalkllfgedacoaaGreatDoorO20
import Derived.Test.YtalkllfgedacoaaGreatDoorO21
import Derived.Test.YtalkllfgedacoaaGreatDoorO3
namespace Go.Proofs.YtalkllfgedacoaaGreatDoor
open Go.RowKit Go.Sort

def exC : Cfg := ⟨1, 2, 0, 1, 3, 1, 0, 1, 1, 0, [], none, 0⟩
theorem exC_in (w : World) : CfgIn w exC := ⟨.inl rfl, Nat.zero_le _⟩
theorem ex_w1 : wordS (whatS exC 0).1 (whatS exC 0).2.1 (whatS exC 0).2.2 65537 = ⟨#[114, 111, 111, 116, 32, 48, 58, 49]⟩ := by decide +kernel
theorem ex_w2 : wordS (whatS exC 13).1 (whatS exC 13).2.1 (whatS exC 13).2.2 255 = ⟨#[97, 114, 103, 115, 32, 49, 32, 51, 32, 102, 102]⟩ := by decide +kernel
theorem ex_w3 : wordS (whatS exC 99).1 (whatS exC 99).2.1 (whatS exC 99).2.2 0 = ⟨#[110, 111, 116, 104, 105, 110, 103]⟩ := by decide +kernel
theorem ex_rs : resS ⟨2, 0, 14, 0⟩ = ⟨#[99, 97, 108, 108, 32, 50, 32, 112, 97, 114, 107, 32, 48, 32, 99, 97, 115, 101, 32, 48]⟩ := by decide +kernel
theorem ex_st : stepS 15 = ⟨#[115, 119, 97, 112, 114, 111, 111, 116]⟩ := by decide +kernel

set_option maxHeartbeats 4000000 in
set_option maxRecDepth 100000 in
theorem awake25_any (w : World) (ht : TabT w) (hz : Tz16 w) : Calls Tryz.prog 15 #[] w fun e w' => e = .returned (.bool true) ∧ Below w.heap.size w w' := by
  have HT := Lib.hid ht
  have HZ := Lib.hid hz
  have HB0 := Lib.hid ((Below.refl w.heap.size w).alloc (Nat.le_refl _) (.cells #[.int .i64 1, .int .i64 2, .int .i64 0, .int .i64 1, .int .i64 3, .int .i64 1, .int .i64 0, .int .i64 1, .int .i64 1, .int .i64 0, .slice none 0 0] 88))
  have HX := Lib.hid (BoxC.new w exC)
  have H1 := Lib.hid (fun W h1 h2 h3 => vWord_any exC 0 65537 W h1 (by decide) h2 h3)
  have H2 := Lib.hid (fun W h1 h2 h3 => vWord_any exC 13 255 W h1 (by decide) h2 h3)
  have H3 := Lib.hid (fun W h1 h2 h3 => vWord_any exC 99 0 W h1 (by decide) h2 h3)
  have H4 := Lib.hid (fun W h => vRes_any ⟨2, 0, 14, 0⟩ W ⟨by decide, by decide⟩ ⟨by decide, by decide⟩ ⟨by decide, by decide⟩ h)
  have H5 := Lib.hid (fun W => stepS_any 15 W)
  rw [ex_w1] at H1
  rw [ex_w2] at H2
  rw [ex_w3] at H3
  rw [ex_rs] at H4
  rw [ex_st] at H5
  unfold cfgV exC at H1 H2 H3
  unfold exC at HX
  unfold rsV at H4
  simp only [List.length_nil] at H1 H2 H3 H4 HX
  clear ht hz
  go_enter Tryz.func15, Tryz.ntmps15
  go_wp2_with fail
  generalize w.alloc (.cells #[.int .i64 1, .int .i64 2, .int .i64 0, .int .i64 1, .int .i64 3, .int .i64 1, .int .i64 0, .int .i64 1, .int .i64 1, .int .i64 0, .slice none 0 0] 88) = W0 at *
  refine (H1.out _ (exC_in _) (HT.out.below HB0.out) (HZ.out.below HB0.out)).mono ?_
  rintro e w1 ⟨rfl, hb1⟩
  have HB1 := Lib.hid (HB0.out.trans (hb1.mono HB0.out.size))
  have HX1 := Lib.hid (HX.out.below hb1)
  have hx1 := HX1.out.all
  simp only at hx1
  obtain ⟨y0, y1, y2, y3, y4, y5, y6, y7, y8, y9, y10⟩ := hx1
  clear hb1
  go_wp2_with fail
  refine (H2.out _ (exC_in _) (HT.out.below HB1.out) (HZ.out.below HB1.out)).mono ?_
  rintro e w2 ⟨rfl, hb2⟩
  have HB2 := Lib.hid (HB1.out.trans (hb2.mono HB1.out.size))
  have hx2 := (HX1.out.below hb2).all
  simp only at hx2
  clear y0 y1 y2 y3 y4 y5 y6 y7 y8 y9 y10 hb2
  obtain ⟨y0, y1, y2, y3, y4, y5, y6, y7, y8, y9, y10⟩ := hx2
  go_wp2_with fail
  refine (H3.out _ (exC_in _) (HT.out.below HB2.out) (HZ.out.below HB2.out)).mono ?_
  rintro e w3 ⟨rfl, hb3⟩
  have HB3 := Lib.hid (HB2.out.trans (hb3.mono HB2.out.size))
  clear y0 y1 y2 y3 y4 y5 y6 y7 y8 y9 y10 hb3
  go_wp2_with fail
  refine (H4.out _ (HT.out.below HB3.out)).mono ?_
  rintro e w4 ⟨rfl, hb4⟩
  have HB4 := Lib.hid (HB3.out.trans (hb4.mono HB3.out.size))
  clear hb4
  go_wp2_with fail
  refine (H5.out _).mono ?_
  rintro e w5 ⟨rfl, hb5⟩
  have HB5 := Lib.hid (HB4.out.trans (hb5.mono HB4.out.size))
  clear hb5
  go_wp2
  go_ret
  exact ⟨rfl, HB5.out⟩

end Go.Proofs.YtalkllfgedacoaaGreatDoor

namespace Go.Proofs.YtalkllfgedacoaaGreatDoor
open Go.RowKit Go.Sort

/-- What the law's calls read of the world. -/
structure LIn (q : Reqr) (cs : List Cse) (q2 : Reqr) (cs2 : List Cse) (A : Option Addr) (l : List Opr) (w : World) : Prop where
  v1 : VIn q cs w
  v2 : VIn q2 cs2 w
  rd : Rd w A (rows l)
  tz : Tz16 w
theorem LIn.below {q : Reqr} {cs : List Cse} {q2 : Reqr} {cs2 : List Cse} {A : Option Addr} {l : List Opr} {w w' : World} (h : LIn q cs q2 cs2 A l w) (hb : Below w.heap.size w w') : LIn q cs q2 cs2 A l w' := ⟨h.v1.below hb, h.v2.below hb, h.rd.below hb, h.tz.below hb⟩

theorem blk_range {w : World} {g : Nat} {t : TypeId} {cs : List Value} (h : Blk w g t cs) : w.rangeAt g 0 cs := fun j v hv => by
  rw [Nat.zero_add]
  exact h.cell hv

set_option maxHeartbeats 64000000 in
set_option maxRecDepth 100000 in
theorem LawVl_any (k : Tsk) (cs : List Cse) (n : NotR) (cs2 : List Cse) (x : TurR) (l : List Opr) (w : World) (h1 : In64 k.sq) (h2 : In64 k.rd) (hn : k.q.n ≤ 1048570) (hc : CallIn k.q cs)
    (g1 : In64 n.tm) (g2 : In64 n.th) (g3 : In64 n.sq) (g4 : In64 n.r.seq) (g5 : In64 n.r.value) (g6 : In64 n.r.case_) (gn : n.q.n ≤ 1048570) (gc : CallIn n.q cs2)
    (i1 : In64 x.tm) (i2 : In64 x.th) (il : l.length = x.n) (im : x.n ≤ 1048576) (io : ∀ o ∈ l, In64 o.th ∧ In64 o.sq) (hv : LIn k.q cs n.q cs2 x.A l w) :
    Calls Tryz.prog 3 #[taskV k, noteV n, turnV x] w fun e w' => e = .returned (.bool true) ∧ Below w.heap.size w w' := by
  obtain ⟨pc, sq, ⟨kd, ar, vl, df, QA, qn, qc⟩, sl, rd, r0, r1, r2, r3, r4, r5, r6, r7, r8, r9, r10, r11, r12, r13, r14, r15, r16, r17, r18, r19, r20, r21, r22, r23, r24⟩ := k
  obtain ⟨kn, th2, sq2, tm, ⟨kd2, ar2, vl2, df2, QA2, qn2, qc2⟩, ⟨rs, rc, re, rv⟩⟩ := n
  obtain ⟨tm3, th3, OA, on, oc⟩ := x
  simp only at h1 h2 hn hc g1 g2 g3 g4 g5 g6 gn gc i1 i2 il im hv
  have H1 := Lib.hid (fun W (h : LIn ⟨kd, ar, vl, df, QA, qn, qc⟩ cs ⟨kd2, ar2, vl2, df2, QA2, qn2, qc2⟩ cs2 OA l W) => vTask_any ⟨pc, sq, ⟨kd, ar, vl, df, QA, qn, qc⟩, sl, rd, r0, r1, r2, r3, r4, r5, r6, r7, r8, r9, r10, r11, r12, r13, r14, r15, r16, r17, r18, r19, r20, r21, r22, r23, r24⟩ cs W h1 h2 hn hc h.v1)
  have H2 := Lib.hid (fun W (h : LIn ⟨kd, ar, vl, df, QA, qn, qc⟩ cs ⟨kd2, ar2, vl2, df2, QA2, qn2, qc2⟩ cs2 OA l W) => rTask_any ⟨pc, sq, ⟨kd, ar, vl, df, QA, qn, qc⟩, sl, rd, r0, r1, r2, r3, r4, r5, r6, r7, r8, r9, r10, r11, r12, r13, r14, r15, r16, r17, r18, r19, r20, r21, r22, r23, r24⟩ cs W h1 h2 hn hc h.v1)
  have H3 := Lib.hid (fun W (h : LIn ⟨kd, ar, vl, df, QA, qn, qc⟩ cs ⟨kd2, ar2, vl2, df2, QA2, qn2, qc2⟩ cs2 OA l W) => vNote_any ⟨kn, th2, sq2, tm, ⟨kd2, ar2, vl2, df2, QA2, qn2, qc2⟩, ⟨rs, rc, re, rv⟩⟩ cs2 W g1 g2 g3 g4 g5 g6 gn gc h.v2)
  have H4 := Lib.hid (fun W (h : LIn ⟨kd, ar, vl, df, QA, qn, qc⟩ cs ⟨kd2, ar2, vl2, df2, QA2, qn2, qc2⟩ cs2 OA l W) => rNote_any ⟨kn, th2, sq2, tm, ⟨kd2, ar2, vl2, df2, QA2, qn2, qc2⟩, ⟨rs, rc, re, rv⟩⟩ cs2 W g1 g2 g3 g4 g5 g6 gn gc h.v2)
  have H5 := Lib.hid (fun W (h : LIn ⟨kd, ar, vl, df, QA, qn, qc⟩ cs ⟨kd2, ar2, vl2, df2, QA2, qn2, qc2⟩ cs2 OA l W) => vTurn_any ⟨tm3, th3, OA, on, oc⟩ l W i1 i2 il im io h.rd h.v1.tab)
  have H6 := Lib.hid (fun W (h : LIn ⟨kd, ar, vl, df, QA, qn, qc⟩ cs ⟨kd2, ar2, vl2, df2, QA2, qn2, qc2⟩ cs2 OA l W) => rTurn_any ⟨tm3, th3, OA, on, oc⟩ l W i1 i2 il im io h.rd h.v1.tab)
  have H7 := Lib.hid (fun W (h : LIn ⟨kd, ar, vl, df, QA, qn, qc⟩ cs ⟨kd2, ar2, vl2, df2, QA2, qn2, qc2⟩ cs2 OA l W) => awake25_any W h.v1.tab h.tz)
  have HBT := Lib.hid ((Below.refl w.heap.size w).alloc (Nat.le_refl _) (.cells #[.int .i64 pc, .int .i64 sq, .int .i64 kd, .int .i64 ar, .int .i64 vl, .bool df, .slice QA qn qc, .bool sl, .int .i64 rd, r0, r1, r2, r3, r4, r5, r6, r7, r8, r9, r10, r11, r12, r13, r14, r15, r16, r17, r18, r19, r20, r21, r22, r23, r24] 38))
  have HBN := Lib.hid (HBT.out.alloc HBT.out.size (.cells #[.int .i64 kn, .int .i64 th2, .int .i64 sq2, .int .i64 tm, .int .i64 kd2, .int .i64 ar2, .int .i64 vl2, .bool df2, .slice QA2 qn2 qc2, .int .i64 rs, .int .i64 rc, .int .i64 re, .int .i64 rv] 40))
  have HB0 := Lib.hid (HBN.out.alloc HBN.out.size (.cells #[.int .i64 tm3, .int .i64 th3, .slice OA on oc] 42))
  have HXT : RowKit.Hid (Blk (((w.alloc (.cells #[.int .i64 pc, .int .i64 sq, .int .i64 kd, .int .i64 ar, .int .i64 vl, .bool df, .slice QA qn qc, .bool sl, .int .i64 rd, r0, r1, r2, r3, r4, r5, r6, r7, r8, r9, r10, r11, r12, r13, r14, r15, r16, r17, r18, r19, r20, r21, r22, r23, r24] 38)).alloc (.cells #[.int .i64 kn, .int .i64 th2, .int .i64 sq2, .int .i64 tm, .int .i64 kd2, .int .i64 ar2, .int .i64 vl2, .bool df2, .slice QA2 qn2 qc2, .int .i64 rs, .int .i64 rc, .int .i64 re, .int .i64 rv] 40)).alloc (.cells #[.int .i64 tm3, .int .i64 th3, .slice OA on oc] 42)) w.heap.size 38 [.int .i64 pc, .int .i64 sq, .int .i64 kd, .int .i64 ar, .int .i64 vl, .bool df, .slice QA qn qc, .bool sl, .int .i64 rd, r0, r1, r2, r3, r4, r5, r6, r7, r8, r9, r10, r11, r12, r13, r14, r15, r16, r17, r18, r19, r20, r21, r22, r23, r24]) := Lib.hid (((Blk.new w _ _).alloc _).alloc _)
  have HXN : RowKit.Hid (Blk (((w.alloc (.cells #[.int .i64 pc, .int .i64 sq, .int .i64 kd, .int .i64 ar, .int .i64 vl, .bool df, .slice QA qn qc, .bool sl, .int .i64 rd, r0, r1, r2, r3, r4, r5, r6, r7, r8, r9, r10, r11, r12, r13, r14, r15, r16, r17, r18, r19, r20, r21, r22, r23, r24] 38)).alloc (.cells #[.int .i64 kn, .int .i64 th2, .int .i64 sq2, .int .i64 tm, .int .i64 kd2, .int .i64 ar2, .int .i64 vl2, .bool df2, .slice QA2 qn2 qc2, .int .i64 rs, .int .i64 rc, .int .i64 re, .int .i64 rv] 40)).alloc (.cells #[.int .i64 tm3, .int .i64 th3, .slice OA on oc] 42)) (w.heap.size + 1) 40 [.int .i64 kn, .int .i64 th2, .int .i64 sq2, .int .i64 tm, .int .i64 kd2, .int .i64 ar2, .int .i64 vl2, .bool df2, .slice QA2 qn2 qc2, .int .i64 rs, .int .i64 rc, .int .i64 re, .int .i64 rv]) := Lib.hid ((blk_new (by simp)).alloc _)
  have HXU : RowKit.Hid (Blk (((w.alloc (.cells #[.int .i64 pc, .int .i64 sq, .int .i64 kd, .int .i64 ar, .int .i64 vl, .bool df, .slice QA qn qc, .bool sl, .int .i64 rd, r0, r1, r2, r3, r4, r5, r6, r7, r8, r9, r10, r11, r12, r13, r14, r15, r16, r17, r18, r19, r20, r21, r22, r23, r24] 38)).alloc (.cells #[.int .i64 kn, .int .i64 th2, .int .i64 sq2, .int .i64 tm, .int .i64 kd2, .int .i64 ar2, .int .i64 vl2, .bool df2, .slice QA2 qn2 qc2, .int .i64 rs, .int .i64 rc, .int .i64 re, .int .i64 rv] 40)).alloc (.cells #[.int .i64 tm3, .int .i64 th3, .slice OA on oc] 42)) (w.heap.size + 1 + 1) 42 [.int .i64 tm3, .int .i64 th3, .slice OA on oc]) := Lib.hid (blk_new (by simp))
  have HPW : RowKit.Hid (LIn ⟨kd, ar, vl, df, QA, qn, qc⟩ cs ⟨kd2, ar2, vl2, df2, QA2, qn2, qc2⟩ cs2 OA l (((w.alloc (.cells #[.int .i64 pc, .int .i64 sq, .int .i64 kd, .int .i64 ar, .int .i64 vl, .bool df, .slice QA qn qc, .bool sl, .int .i64 rd, r0, r1, r2, r3, r4, r5, r6, r7, r8, r9, r10, r11, r12, r13, r14, r15, r16, r17, r18, r19, r20, r21, r22, r23, r24] 38)).alloc (.cells #[.int .i64 kn, .int .i64 th2, .int .i64 sq2, .int .i64 tm, .int .i64 kd2, .int .i64 ar2, .int .i64 vl2, .bool df2, .slice QA2 qn2 qc2, .int .i64 rs, .int .i64 rc, .int .i64 re, .int .i64 rv] 40)).alloc (.cells #[.int .i64 tm3, .int .i64 th3, .slice OA on oc] 42))) := Lib.hid (hv.below HB0.out)
  clear h1 h2 hn hc g1 g2 g3 g4 g5 g6 gn gc i1 i2 il im io hv HBT HBN
  generalize hP : LIn ⟨kd, ar, vl, df, QA, qn, qc⟩ cs ⟨kd2, ar2, vl2, df2, QA2, qn2, qc2⟩ cs2 OA l = P at *
  have HBL : RowKit.Hid (∀ (w w' : World), P w → Below w.heap.size w w' → P w') := Lib.hid (by rw [← hP]; exact fun w w' h hb => LIn.below h hb)
  clear hP
  generalize taskS ⟨pc, sq, ⟨kd, ar, vl, df, QA, qn, qc⟩, sl, rd, r0, r1, r2, r3, r4, r5, r6, r7, r8, r9, r10, r11, r12, r13, r14, r15, r16, r17, r18, r19, r20, r21, r22, r23, r24⟩ cs = s1 at *
  generalize noteS ⟨kn, th2, sq2, tm, ⟨kd2, ar2, vl2, df2, QA2, qn2, qc2⟩, ⟨rs, rc, re, rv⟩⟩ cs2 = s2 at *
  generalize turnS ⟨tm3, th3, OA, on, oc⟩ l = s3 at *
  have e1 : (s1.toList == s1.toList) = true := beq_self_eq_true s1.toList
  have e2 : (s2.toList == s2.toList) = true := beq_self_eq_true s2.toList
  have e3 : (s3.toList == s3.toList) = true := beq_self_eq_true s3.toList
  unfold taskV at H1 H2
  unfold noteV at H3 H4
  unfold turnV at H5 H6
  unfold taskV noteV turnV
  dsimp only at H1 H2 H3 H4 H5 H6 ⊢
  go_enter Tryz.func3, Tryz.ntmps3
  go_upto_region 1 with (fail)
  generalize ((w.alloc (.cells #[.int .i64 pc, .int .i64 sq, .int .i64 kd, .int .i64 ar, .int .i64 vl, .bool df, .slice QA qn qc, .bool sl, .int .i64 rd, r0, r1, r2, r3, r4, r5, r6, r7, r8, r9, r10, r11, r12, r13, r14, r15, r16, r17, r18, r19, r20, r21, r22, r23, r24] 38)).alloc (.cells #[.int .i64 kn, .int .i64 th2, .int .i64 sq2, .int .i64 tm, .int .i64 kd2, .int .i64 ar2, .int .i64 vl2, .bool df2, .slice QA2 qn2 qc2, .int .i64 rs, .int .i64 rc, .int .i64 re, .int .i64 rv] 40)).alloc (.cells #[.int .i64 tm3, .int .i64 th3, .slice OA on oc] 42) = W0 at *
  have hg1 := HXT.out.lt
  have hg2 := HXN.out.lt
  have hg3 := HXU.out.lt
  have HU1 := Tryz.underlying38
  have HU2 := Tryz.underlying40
  have HU3 := Tryz.underlying42
  have HI1 : (Tryz.prog.info? 38).map (·.size) = some ([.int .i64 pc, .int .i64 sq, .int .i64 kd, .int .i64 ar, .int .i64 vl, .bool df, .slice QA qn qc, .bool sl, .int .i64 rd, r0, r1, r2, r3, r4, r5, r6, r7, r8, r9, r10, r11, r12, r13, r14, r15, r16, r17, r18, r19, r20, r21, r22, r23, r24] : List Value).length := by kernel_rfl
  have HI2 : (Tryz.prog.info? 40).map (·.size) = some ([.int .i64 kn, .int .i64 th2, .int .i64 sq2, .int .i64 tm, .int .i64 kd2, .int .i64 ar2, .int .i64 vl2, .bool df2, .slice QA2 qn2 qc2, .int .i64 rs, .int .i64 rc, .int .i64 re, .int .i64 rv] : List Value).length := by kernel_rfl
  have HI3 : (Tryz.prog.info? 42).map (·.size) = some ([.int .i64 tm3, .int .i64 th3, .slice OA on oc] : List Value).length := by kernel_rfl
  have HU1 := Lib.hid HU1
  have HU2 := Lib.hid HU2
  have HU3 := Lib.hid HU3
  have HI1 := Lib.hid HI1
  have HI2 := Lib.hid HI2
  have HI3 := Lib.hid HI3
  generalize hb0 : w.heap.size = b0 at *
  generalize ([.int .i64 pc, .int .i64 sq, .int .i64 kd, .int .i64 ar, .int .i64 vl, .bool df, .slice QA qn qc, .bool sl, .int .i64 rd, r0, r1, r2, r3, r4, r5, r6, r7, r8, r9, r10, r11, r12, r13, r14, r15, r16, r17, r18, r19, r20, r21, r22, r23, r24] : List Value) = L1 at *
  generalize ([.int .i64 kn, .int .i64 th2, .int .i64 sq2, .int .i64 tm, .int .i64 kd2, .int .i64 ar2, .int .i64 vl2, .bool df2, .slice QA2 qn2 qc2, .int .i64 rs, .int .i64 rc, .int .i64 re, .int .i64 rv] : List Value) = L2 at *
  generalize ([.int .i64 tm3, .int .i64 th3, .slice OA on oc] : List Value) = L3 at *
  have HP0 : RowKit.Hid (P W0.drew) := Lib.hid (HBL.out _ _ HPW.out (Below.drewN' (Below.refl W0.heap.size W0) 1))
  have HBB := Lib.hid HB0.out.size
  have HSB : RowKit.Hid (∀ w', Below W0.heap.size W0 w' → (w'.rangeAt b0 0 L1 ∧ w'.rangeAt (b0 + 1) 0 L2 ∧ w'.rangeAt (b0 + 1 + 1) 0 L3)) := Lib.hid (fun w' hb => ⟨blk_range (HXT.out.below hb hg1), blk_range (HXN.out.below hb hg2), blk_range (HXU.out.below hb hg3)⟩)
  clear hg1 hg2 hg3 HXT HXN HXU
  refine wp_region_held_drew (S := fun w' => w'.rangeAt b0 0 L1 ∧ w'.rangeAt (b0 + 1) 0 L2 ∧ w'.rangeAt (b0 + 1 + 1) 0 L3) (by kernel_rfl) (HSB.out _ (Below.drewN' (Below.refl W0.heap.size W0) 1)) (fun hHeld => ?_)
  refine wpAnyH_take (i := 0) (v := .agg L1.toArray) rfl (by kernel_rfl) (by kernel_rfl) (by kernel_rfl) (fun _ _ _ h => h) (yieldsIf_load_mid (by rfl) _ _ rfl _ _ rfl L1 _ (fun _ h => h.1) HU1.out rfl HI1.out) hHeld ?_
  try simp only [Act.put, List.getElem_toArray, List.getElem_cons_zero, List.setIfInBounds_toArray, List.set_cons_zero, List.set_cons_succ]
  refine wpAnyH_take (i := 2) (v := .agg L1.toArray) rfl (by kernel_rfl) (by kernel_rfl) (by kernel_rfl) (fun _ _ _ h => h) (yieldsIf_load_mid (by rfl) _ _ rfl _ _ rfl L1 _ (fun _ h => h.1) HU1.out rfl HI1.out) hHeld ?_
  try simp only [Act.put, List.getElem_toArray, List.getElem_cons_succ, List.getElem_cons_zero, List.setIfInBounds_toArray, List.set_cons_zero, List.set_cons_succ]
  refine wpAnyH_ready (rs := [1]) (by kernel_rfl) (by simp) ?_
  refine AllReadyH.cons rfl (fun K hK => ?_) AllReadyH.nil
  clear hHeld
  rw [if_pos (by rfl)]
  simp only [List.getElem_toArray, List.getElem_cons_succ, List.getElem_cons_zero]
  go_simp
  refine (H1.out W0.drew HP0.out).mono ?_
  rintro er v1 ⟨rfl, hb1⟩
  have hB1 : Below W0.heap.size W0 v1 := ⟨hb1.os, hb1.tape, hb1.output, hb1.size, hb1.block⟩
  have HP1 := Lib.hid (HBL.out _ _ HPW.out hB1)
  go_wp2_with fail
  refine hK.out _ _ (HSB.out _ hB1) (fun hHeld => ?_)
  clear hK K
  try simp only [Act.put, List.getElem_toArray, List.getElem_cons_succ, List.getElem_cons_zero, List.setIfInBounds_toArray, List.set_cons_zero, List.set_cons_succ]
  refine wpAnyH_ready (rs := [3]) (by kernel_rfl) (by simp) ?_
  refine AllReadyH.cons rfl (fun K hK => ?_) AllReadyH.nil
  clear hHeld
  rw [if_pos (by rfl)]
  simp only [List.getElem_toArray, List.getElem_cons_succ, List.getElem_cons_zero]
  go_simp
  refine (H2.out v1 HP1.out).mono ?_
  rintro er v2 ⟨rfl, hb2⟩
  have hB2 : Below W0.heap.size W0 v2 := hB1.trans (hb2.mono hB1.size)
  have HP2 := Lib.hid (HBL.out _ _ HPW.out hB2)
  go_wp2_with fail
  refine hK.out _ _ (HSB.out _ hB2) (fun hHeld => ?_)
  clear hK K
  try simp only [Act.put, List.getElem_toArray, List.getElem_cons_succ, List.getElem_cons_zero, List.setIfInBounds_toArray, List.set_cons_zero, List.set_cons_succ]
  refine wpAnyH_take (i := 4) (v := .bool true) rfl (by kernel_rfl) (by kernel_rfl) (by kernel_rfl) (fun _ _ _ h => h) (Or.inl ⟨by rfl, fun w hSw => by go_simp⟩) hHeld ?_
  try simp only [Act.put, List.getElem_toArray, List.getElem_cons_succ, List.getElem_cons_zero, List.setIfInBounds_toArray, List.set_cons_zero, List.set_cons_succ]
  refine wpAnyH_take (i := 5) (v := .bool true) rfl (by kernel_rfl) (by kernel_rfl) (by kernel_rfl) (fun _ _ _ h => h) (Or.inl ⟨by rfl, fun w hSw => by go_simp⟩) hHeld ?_
  try simp only [Act.put, List.getElem_toArray, List.getElem_cons_succ, List.getElem_cons_zero, List.setIfInBounds_toArray, List.set_cons_zero, List.set_cons_succ]
  refine wpAnyH_take (i := 6) (v := .agg L2.toArray) rfl (by kernel_rfl) (by kernel_rfl) (by kernel_rfl) (fun _ _ _ h => h) (yieldsIf_load_mid (by rfl) _ _ rfl _ _ rfl L2 _ (fun _ h => h.2.1) HU2.out rfl HI2.out) hHeld ?_
  try simp only [Act.put, List.getElem_toArray, List.getElem_cons_succ, List.getElem_cons_zero, List.setIfInBounds_toArray, List.set_cons_zero, List.set_cons_succ]
  refine wpAnyH_take (i := 8) (v := .agg L2.toArray) rfl (by kernel_rfl) (by kernel_rfl) (by kernel_rfl) (fun _ _ _ h => h) (yieldsIf_load_mid (by rfl) _ _ rfl _ _ rfl L2 _ (fun _ h => h.2.1) HU2.out rfl HI2.out) hHeld ?_
  try simp only [Act.put, List.getElem_toArray, List.getElem_cons_succ, List.getElem_cons_zero, List.setIfInBounds_toArray, List.set_cons_zero, List.set_cons_succ]
  refine wpAnyH_ready (rs := [7]) (by kernel_rfl) (by simp) ?_
  refine AllReadyH.cons rfl (fun K hK => ?_) AllReadyH.nil
  clear hHeld
  rw [if_pos (by rfl)]
  simp only [List.getElem_toArray, List.getElem_cons_succ, List.getElem_cons_zero]
  go_simp
  refine (H3.out v2 HP2.out).mono ?_
  rintro er v3 ⟨rfl, hb3⟩
  have hB3 : Below W0.heap.size W0 v3 := hB2.trans (hb3.mono hB2.size)
  have HP3 := Lib.hid (HBL.out _ _ HPW.out hB3)
  go_wp2_with fail
  refine hK.out _ _ (HSB.out _ hB3) (fun hHeld => ?_)
  clear hK K
  try simp only [Act.put, List.getElem_toArray, List.getElem_cons_succ, List.getElem_cons_zero, List.setIfInBounds_toArray, List.set_cons_zero, List.set_cons_succ]
  refine wpAnyH_ready (rs := [9]) (by kernel_rfl) (by simp) ?_
  refine AllReadyH.cons rfl (fun K hK => ?_) AllReadyH.nil
  clear hHeld
  rw [if_pos (by rfl)]
  simp only [List.getElem_toArray, List.getElem_cons_succ, List.getElem_cons_zero]
  go_simp
  refine (H4.out v3 HP3.out).mono ?_
  rintro er v4 ⟨rfl, hb4⟩
  have hB4 : Below W0.heap.size W0 v4 := hB3.trans (hb4.mono hB3.size)
  have HP4 := Lib.hid (HBL.out _ _ HPW.out hB4)
  go_wp2_with fail
  refine hK.out _ _ (HSB.out _ hB4) (fun hHeld => ?_)
  clear hK K
  try simp only [Act.put, List.getElem_toArray, List.getElem_cons_succ, List.getElem_cons_zero, List.setIfInBounds_toArray, List.set_cons_zero, List.set_cons_succ]
  refine wpAnyH_take (i := 10) (v := .bool true) rfl (by kernel_rfl) (by kernel_rfl) (by kernel_rfl) (fun _ _ _ h => h) (Or.inl ⟨by rfl, fun w hSw => by go_simp⟩) hHeld ?_
  try simp only [Act.put, List.getElem_toArray, List.getElem_cons_succ, List.getElem_cons_zero, List.setIfInBounds_toArray, List.set_cons_zero, List.set_cons_succ]
  refine wpAnyH_take (i := 11) (v := .bool true) rfl (by kernel_rfl) (by kernel_rfl) (by kernel_rfl) (fun _ _ _ h => h) (Or.inl ⟨by rfl, fun w hSw => by go_simp⟩) hHeld ?_
  try simp only [Act.put, List.getElem_toArray, List.getElem_cons_succ, List.getElem_cons_zero, List.setIfInBounds_toArray, List.set_cons_zero, List.set_cons_succ]
  refine wpAnyH_take (i := 12) (v := .bool true) rfl (by kernel_rfl) (by kernel_rfl) (by kernel_rfl) (fun _ _ _ h => h) (Or.inl ⟨by rfl, fun w hSw => by go_simp⟩) hHeld ?_
  try simp only [Act.put, List.getElem_toArray, List.getElem_cons_succ, List.getElem_cons_zero, List.setIfInBounds_toArray, List.set_cons_zero, List.set_cons_succ]
  refine wpAnyH_take (i := 13) (v := .agg L3.toArray) rfl (by kernel_rfl) (by kernel_rfl) (by kernel_rfl) (fun _ _ _ h => h) (yieldsIf_load_mid (by rfl) _ _ rfl _ _ rfl L3 _ (fun _ h => h.2.2) HU3.out rfl HI3.out) hHeld ?_
  try simp only [Act.put, List.getElem_toArray, List.getElem_cons_succ, List.getElem_cons_zero, List.setIfInBounds_toArray, List.set_cons_zero, List.set_cons_succ]
  refine wpAnyH_take (i := 15) (v := .agg L3.toArray) rfl (by kernel_rfl) (by kernel_rfl) (by kernel_rfl) (fun _ _ _ h => h) (yieldsIf_load_mid (by rfl) _ _ rfl _ _ rfl L3 _ (fun _ h => h.2.2) HU3.out rfl HI3.out) hHeld ?_
  try simp only [Act.put, List.getElem_toArray, List.getElem_cons_succ, List.getElem_cons_zero, List.setIfInBounds_toArray, List.set_cons_zero, List.set_cons_succ]
  refine wpAnyH_ready (rs := [14]) (by kernel_rfl) (by simp) ?_
  refine AllReadyH.cons rfl (fun K hK => ?_) AllReadyH.nil
  clear hHeld
  rw [if_pos (by rfl)]
  simp only [List.getElem_toArray, List.getElem_cons_succ, List.getElem_cons_zero]
  go_simp
  refine (H5.out v4 HP4.out).mono ?_
  rintro er v5 ⟨rfl, hb5⟩
  have hB5 : Below W0.heap.size W0 v5 := hB4.trans (hb5.mono hB4.size)
  have HP5 := Lib.hid (HBL.out _ _ HPW.out hB5)
  go_wp2_with fail
  refine hK.out _ _ (HSB.out _ hB5) (fun hHeld => ?_)
  clear hK K
  try simp only [Act.put, List.getElem_toArray, List.getElem_cons_succ, List.getElem_cons_zero, List.setIfInBounds_toArray, List.set_cons_zero, List.set_cons_succ]
  refine wpAnyH_ready (rs := [16]) (by kernel_rfl) (by simp) ?_
  refine AllReadyH.cons rfl (fun K hK => ?_) AllReadyH.nil
  clear hHeld
  rw [if_pos (by rfl)]
  simp only [List.getElem_toArray, List.getElem_cons_succ, List.getElem_cons_zero]
  go_simp
  refine (H6.out v5 HP5.out).mono ?_
  rintro er v6 ⟨rfl, hb6⟩
  have hB6 : Below W0.heap.size W0 v6 := hB5.trans (hb6.mono hB5.size)
  have HP6 := Lib.hid (HBL.out _ _ HPW.out hB6)
  go_wp2_with fail
  refine hK.out _ _ (HSB.out _ hB6) (fun hHeld => ?_)
  clear hK K
  try simp only [Act.put, List.getElem_toArray, List.getElem_cons_succ, List.getElem_cons_zero, List.setIfInBounds_toArray, List.set_cons_zero, List.set_cons_succ]
  refine wpAnyH_take (i := 17) (v := .bool true) rfl (by kernel_rfl) (by kernel_rfl) (by kernel_rfl) (fun _ _ _ h => h) (Or.inl ⟨by rfl, fun w hSw => by go_simp⟩) hHeld ?_
  try simp only [Act.put, List.getElem_toArray, List.getElem_cons_succ, List.getElem_cons_zero, List.setIfInBounds_toArray, List.set_cons_zero, List.set_cons_succ]
  refine wpAnyH_take (i := 18) (v := .bool true) rfl (by kernel_rfl) (by kernel_rfl) (by kernel_rfl) (fun _ _ _ h => h) (Or.inl ⟨by rfl, fun w hSw => by go_simp⟩) hHeld ?_
  try simp only [Act.put, List.getElem_toArray, List.getElem_cons_succ, List.getElem_cons_zero, List.setIfInBounds_toArray, List.set_cons_zero, List.set_cons_succ]
  refine wpAnyH_take (i := 19) (v := .bool true) rfl (by kernel_rfl) (by kernel_rfl) (by kernel_rfl) (fun _ _ _ h => h) (Or.inl ⟨by rfl, fun w hSw => by go_simp⟩) hHeld ?_
  try simp only [Act.put, List.getElem_toArray, List.getElem_cons_succ, List.getElem_cons_zero, List.setIfInBounds_toArray, List.set_cons_zero, List.set_cons_succ]
  refine wpAnyH_ready (rs := [20]) (by kernel_rfl) (by simp) ?_
  refine AllReadyH.cons rfl (fun K hK => ?_) AllReadyH.nil
  clear hHeld
  rw [if_pos (by rfl)]
  simp only [List.getElem_toArray, List.getElem_cons_succ, List.getElem_cons_zero]
  go_simp
  refine (H7.out v6 HP6.out).mono ?_
  rintro er v7 ⟨rfl, hb7⟩
  have hB7 : Below W0.heap.size W0 v7 := hB6.trans (hb7.mono hB6.size)
  have HP7 := Lib.hid (HBL.out _ _ HPW.out hB7)
  go_wp2_with fail
  refine hK.out _ _ (HSB.out _ hB7) (fun hHeld => ?_)
  clear hK K
  try simp only [Act.put, List.getElem_toArray, List.getElem_cons_succ, List.getElem_cons_zero, List.setIfInBounds_toArray, List.set_cons_zero, List.set_cons_succ]
  refine wpAnyH_take (i := 21) (v := .bool true) rfl (by kernel_rfl) (by kernel_rfl) (by kernel_rfl) (fun _ _ _ h => h) (Or.inl ⟨by rfl, fun w hSw => by go_simp⟩) hHeld ?_
  try simp only [Act.put, List.getElem_toArray, List.getElem_cons_succ, List.getElem_cons_zero, List.setIfInBounds_toArray, List.set_cons_zero, List.set_cons_succ]
  refine wpAnyH_take (i := 22) (v := .bool true) rfl (by kernel_rfl) (by kernel_rfl) (by kernel_rfl) (fun _ _ _ h => h) (Or.inl ⟨by rfl, fun w hSw => by go_simp⟩) hHeld ?_
  try simp only [Act.put, List.getElem_toArray, List.getElem_cons_succ, List.getElem_cons_zero, List.setIfInBounds_toArray, List.set_cons_zero, List.set_cons_succ]
  clear hHeld
  refine wpAnyH_done (by kernel_rfl) ?_ _
  go_wp2
  go_ret
  exact ⟨rfl, by rw [hb0]; exact HB0.out.trans (hB7.mono (by rw [← hb0]; exact HBB.out))⟩

end Go.Proofs.YtalkllfgedacoaaGreatDoor

namespace Go.Proofs.YtalkllfgedacoaaGreatDoor
open Go.ChangeShapes Go.WideShapes Go.ChangeAt Go.RowKit Go.Deep

theorem bulk_pos {H : Type} (d : DataW H) : 1 ≤ Rows.uptoBulk d := by
  cases d with
  | lit l => cases l <;> simp [Rows.uptoBulk]
  | _ => simp [Rows.uptoBulk]
theorem bulk_len {H : Type} : ∀ (l : List (DataW H)), l.length ≤ Rows.uptoBulkAll l
  | [] => by simp [Rows.uptoBulkAll]
  | d :: r => by
    have h1 := bulk_len r
    have h2 := bulk_pos d
    simp only [Rows.uptoBulkAll, List.length_cons]
    omega
theorem bulk_in {H : Type} {d : DataW H} : ∀ {l : List (DataW H)}, d ∈ l → Rows.uptoBulk d + l.length ≤ Rows.uptoBulkAll l + 1
  | x :: r, h => by
    simp only [Rows.uptoBulkAll, List.length_cons]
    rcases List.mem_cons.1 h with rfl | h
    · have := bulk_len r; omega
    · have h1 := bulk_in h
      have h2 := bulk_pos x
      omega

section
variable {H : Type} {enc : TypeId × Value → H} {P : Program} {w : World} {base : Nat} {spare : Nat → Bool} {held : Bool}

/-- A slice of records that came in, as a list, no longer than the bulk. -/
theorem rd_recsN {α : Type} [C : Cellful α] (Ok : α → Prop) {t e : TypeId} {n : Nat} {x : Value} {y : DataW H × List MemPlace} (ht : P.underlying t = some (.slice e)) (hC : P.cellsOf e = C.s) (hpos : 0 < C.s)
    (hopen : ∀ (n : Nat) (cs : List Value) (y : DataW H × List MemPlace), DataW.trod enc P w base (fun _ => true) held n e cs = some y → ∃ a : α, cs = C.cells a ∧ Ok a)
    (h : DataW.trod enc P w base (fun _ => true) held n t [x] = some y) :
    ∃ (A : Option Addr) (l : List α) (cap : Nat), x = .slice A l.length cap ∧ Rd w A (rows l) ∧ (∀ a ∈ l, Ok a) ∧ l.length ≤ cap ∧ l.length + 1 ≤ Rows.uptoBulk y.1 := by
  have hx := open_slice ht h
  obtain ⟨A, l, cap, rfl, hR, _, hcap, _, hok⟩ := rd_recs Ok ht hC hpos hopen h
  refine ⟨A, l, cap, rfl, hR, hok, hcap, ?_⟩
  rcases hx with ⟨hcs, hy⟩ | ⟨a, len, cap', m, n', D, Pl, hcs, _, hl, hm, hmm, hy, hi⟩
  · simp only [List.cons.injEq, and_true] at hcs
    injection hcs with h1 h2 h3
    have := bulk_pos y.1
    omega
  · simp only [List.cons.injEq, and_true] at hcs
    injection hcs with h1 h2 h3
    rw [hy]
    simp only [Rows.uptoBulk]
    have h4 := bulk_len ((List.range len).map D)
    rw [List.length_map, List.length_range] at h4
    omega

/-- A field's cells read as its type, its bulk beside the others'. -/
theorem fldB {e : TypeId} {fs : Array Field} {n : Nat} {cs : List Value} {y : DataW H × List MemPlace} (he : P.underlying e = some (.struct fs)) (h : DataW.trod enc P w base spare held n e cs = some y) (j o c : Nat) (t : TypeId)
    (hj : fs[j]?.map (fun f => (f.offset, f.type)) = some (o, t)) (hc : P.cellsOf t = c) : ∃ y' n', DataW.trod enc P w base spare held n' t ((cs.drop o).take c) = some y' ∧ Rows.uptoBulk y'.1 + fs.size ≤ Rows.uptoBulk y.1 := by
  obtain ⟨xs, m, _, hx, _, hlen, hg⟩ := DataW.trod_struct he h
  obtain ⟨f, hff, hp⟩ := Option.map_eq_some_iff.1 hj
  simp only [Prod.mk.injEq] at hp
  obtain ⟨rfl, rfl⟩ := hp
  have h1 := hg j f hff
  have hjl : j < fs.size := (Array.getElem?_eq_some_iff.1 hff).1
  rw [hc, List.getElem?_eq_getElem (by omega)] at h1
  refine ⟨_, m, h1, ?_⟩
  subst hx
  simp only [Rows.uptoBulk]
  have hmem : (xs[j]'(by omega)).1 ∈ xs.map (·.1) := List.mem_map.2 ⟨_, List.getElem_mem _, rfl⟩
  have := bulk_in hmem
  rw [List.length_map] at this
  have hl2 := hlen
  omega
end

section
variable {H : Type} {enc : TypeId × Value → H} {w : World} {base : Nat} {held : Bool}

set_option maxRecDepth 100000 in
theorem open_reqB {n : Nat} {cs : List Value} {y : DataW H × List MemPlace} (h : DataW.trod enc Tryz.prog w 0 (fun _ => true) held n 24 cs = some y) :
    ∃ (q : Reqr) (l : List Cse), cs = q.cells ∧ ReqAt w q l ∧ CallIn q l ∧ q.n + 6 ≤ Rows.uptoBulk y.1 ∧ q.n ≤ q.c := by
  have hl := fld_len Tryz.underlying24 h
  rw [show Tryz.prog.cellsOf 24 = 5 by kernel_rfl] at hl
  have c1 : Tryz.prog.cellsOf 3 = 1 := by kernel_rfl
  have cb : Tryz.prog.cellsOf 4 = 1 := by kernel_rfl
  have cs1 : Tryz.prog.cellsOf 22 = 1 := by kernel_rfl
  obtain ⟨_, _, h0⟩ := fld Tryz.underlying24 h 0 0 1 3 rfl c1
  obtain ⟨_, _, h1⟩ := fld Tryz.underlying24 h 1 1 1 3 rfl c1
  obtain ⟨_, _, h2⟩ := fld Tryz.underlying24 h 2 2 1 3 rfl c1
  obtain ⟨_, _, h3⟩ := fld Tryz.underlying24 h 3 3 1 4 rfl cb
  obtain ⟨y4, _, h4, f4⟩ := fldB Tryz.underlying24 h 4 4 1 22 rfl cs1
  obtain ⟨z0, e0, w0⟩ := leaf_int Tryz.underlying3 h0
  obtain ⟨z1, e1, w1⟩ := leaf_int Tryz.underlying3 h1
  obtain ⟨z2, e2, w2⟩ := leaf_int Tryz.underlying3 h2
  obtain ⟨z3, e3⟩ := leaf_bool Tryz.underlying4 h3
  obtain ⟨x4, e4, h4'⟩ := leaf_sliceW Tryz.underlying22 h4
  obtain ⟨A, l, cap, rfl, hR, hok, hcap, hb⟩ := rd_recsN (α := Cse) (fun a => In64 a.dir ∧ In64 a.handle ∧ In64 a.value) Tryz.underlying22 (by kernel_rfl) (by decide) (fun n cs y h => open_case h) h4'
  refine ⟨⟨z0, z1, z2, z3, A, l.length, cap⟩, l, ?_, ⟨rfl, hR⟩, ⟨in64_of w1, in64_of w2, fun x hx => ⟨(hok x hx).2.1, (hok x hx).2.2⟩⟩, ?_, hcap⟩
  · match cs, hl with
    | [a0, a1, a2, a3, a4], _ =>
      simp at e0 e1 e2 e3 e4
      subst e0 e1 e2 e3 e4
      rfl
  · have e5 : (5 : Nat) ≤ 5 := Nat.le_refl 5
    have f4' : Rows.uptoBulk y4.1 + 5 ≤ Rows.uptoBulk y.1 := f4
    show l.length + 6 ≤ _
    omega

set_option maxRecDepth 100000 in
theorem task_arg {v : Value} {d : DataW H} {p : List MemPlace} (hv : Value.okWide Tryz.prog w .any base 38 v) (h : DataW.Trod enc Tryz.prog w 0 (fun _ => true) held 38 v d p) (hb : Rows.uptoBulk d ≤ 1048576) :
    ∃ (k : Tsk) (cs : List Cse), v = taskV k ∧ In64 k.sq ∧ In64 k.rd ∧ k.q.n ≤ 1048570 ∧ CallIn k.q cs ∧ ReqAt w k.q cs := by
  obtain ⟨cs, rfl, _⟩ := okWide_struct Tryz.underlying38 hv
  obtain ⟨n, hn⟩ := h
  obtain ⟨cs⟩ := cs
  have hn : DataW.trod enc Tryz.prog w 0 (fun _ => true) held n 38 cs = some (d, p) := hn
  have hl := fld_len Tryz.underlying38 hn
  rw [show Tryz.prog.cellsOf 38 = 34 by kernel_rfl] at hl
  have c1 : Tryz.prog.cellsOf 3 = 1 := by kernel_rfl
  have cb : Tryz.prog.cellsOf 4 = 1 := by kernel_rfl
  have cq : Tryz.prog.cellsOf 24 = 5 := by kernel_rfl
  obtain ⟨_, _, h0⟩ := fld Tryz.underlying38 hn 0 0 1 3 rfl c1
  obtain ⟨_, _, h1⟩ := fld Tryz.underlying38 hn 1 1 1 3 rfl c1
  obtain ⟨y2, _, h2, f2⟩ := fldB Tryz.underlying38 hn 2 2 5 24 rfl cq
  obtain ⟨_, _, h3⟩ := fld Tryz.underlying38 hn 3 7 1 4 rfl cb
  obtain ⟨_, _, h4⟩ := fld Tryz.underlying38 hn 4 8 1 3 rfl c1
  obtain ⟨z0, e0, w0⟩ := leaf_int Tryz.underlying3 h0
  obtain ⟨z1, e1, w1⟩ := leaf_int Tryz.underlying3 h1
  obtain ⟨q, l, eq, hr, hc, hq, _⟩ := open_reqB h2
  obtain ⟨z3, e3⟩ := leaf_bool Tryz.underlying4 h3
  obtain ⟨z4, e4, w4⟩ := leaf_int Tryz.underlying3 h4
  have g0 := part_at (i := 0) (by rw [eq]; rfl)
  have g1 := part_at (i := 1) (by rw [eq]; rfl)
  have g2 := part_at (i := 2) (by rw [eq]; rfl)
  have g3 := part_at (i := 3) (by rw [eq]; rfl)
  have g4 := part_at (i := 4) (by rw [eq]; rfl)
  rcases cs with _ | ⟨a0, cs⟩
  · cases hl
  rcases cs with _ | ⟨a1, cs⟩
  · cases hl
  rcases cs with _ | ⟨a2, cs⟩
  · cases hl
  rcases cs with _ | ⟨a3, cs⟩
  · cases hl
  rcases cs with _ | ⟨a4, cs⟩
  · cases hl
  rcases cs with _ | ⟨a5, cs⟩
  · cases hl
  rcases cs with _ | ⟨a6, cs⟩
  · cases hl
  rcases cs with _ | ⟨a7, cs⟩
  · cases hl
  rcases cs with _ | ⟨a8, cs⟩
  · cases hl
  rcases cs with _ | ⟨a9, cs⟩
  · cases hl
  rcases cs with _ | ⟨a10, cs⟩
  · cases hl
  rcases cs with _ | ⟨a11, cs⟩
  · cases hl
  rcases cs with _ | ⟨a12, cs⟩
  · cases hl
  rcases cs with _ | ⟨a13, cs⟩
  · cases hl
  rcases cs with _ | ⟨a14, cs⟩
  · cases hl
  rcases cs with _ | ⟨a15, cs⟩
  · cases hl
  rcases cs with _ | ⟨a16, cs⟩
  · cases hl
  rcases cs with _ | ⟨a17, cs⟩
  · cases hl
  rcases cs with _ | ⟨a18, cs⟩
  · cases hl
  rcases cs with _ | ⟨a19, cs⟩
  · cases hl
  rcases cs with _ | ⟨a20, cs⟩
  · cases hl
  rcases cs with _ | ⟨a21, cs⟩
  · cases hl
  rcases cs with _ | ⟨a22, cs⟩
  · cases hl
  rcases cs with _ | ⟨a23, cs⟩
  · cases hl
  rcases cs with _ | ⟨a24, cs⟩
  · cases hl
  rcases cs with _ | ⟨a25, cs⟩
  · cases hl
  rcases cs with _ | ⟨a26, cs⟩
  · cases hl
  rcases cs with _ | ⟨a27, cs⟩
  · cases hl
  rcases cs with _ | ⟨a28, cs⟩
  · cases hl
  rcases cs with _ | ⟨a29, cs⟩
  · cases hl
  rcases cs with _ | ⟨a30, cs⟩
  · cases hl
  rcases cs with _ | ⟨a31, cs⟩
  · cases hl
  rcases cs with _ | ⟨a32, cs⟩
  · cases hl
  rcases cs with _ | ⟨a33, cs⟩
  · cases hl
  obtain rfl : cs = [] := List.eq_nil_of_length_eq_zero (by simpa using hl)
  simp at e0 e1 e3 e4 g0 g1 g2 g3 g4
  subst e0 e1 e3 e4 g0 g1 g2 g3 g4
  refine ⟨⟨z0, z1, q, z3, z4, a9, a10, a11, a12, a13, a14, a15, a16, a17, a18, a19, a20, a21, a22, a23, a24, a25, a26, a27, a28, a29, a30, a31, a32, a33⟩, l, rfl, in64_of w1, in64_of w4, ?_, hc, hr⟩
  have f2' : Rows.uptoBulk y2.1 + 1 ≤ Rows.uptoBulk d := Nat.le_trans (Nat.add_le_add_left (by decide) _) f2
  show q.n ≤ _
  omega

set_option maxRecDepth 100000 in
theorem note_arg {v : Value} {d : DataW H} {p : List MemPlace} (hv : Value.okWide Tryz.prog w .any base 40 v) (h : DataW.Trod enc Tryz.prog w 0 (fun _ => true) held 40 v d p) (hb : Rows.uptoBulk d ≤ 1048576) :
    ∃ (k : NotR) (cs : List Cse), v = noteV k ∧ In64 k.tm ∧ In64 k.th ∧ In64 k.sq ∧ In64 k.r.seq ∧ In64 k.r.value ∧ In64 k.r.case_ ∧ k.q.n ≤ 1048570 ∧ CallIn k.q cs ∧ ReqAt w k.q cs := by
  obtain ⟨cs, rfl, _⟩ := okWide_struct Tryz.underlying40 hv
  obtain ⟨n, hn⟩ := h
  obtain ⟨cs⟩ := cs
  have hn : DataW.trod enc Tryz.prog w 0 (fun _ => true) held n 40 cs = some (d, p) := hn
  have hl := fld_len Tryz.underlying40 hn
  rw [show Tryz.prog.cellsOf 40 = 13 by kernel_rfl] at hl
  have c1 : Tryz.prog.cellsOf 3 = 1 := by kernel_rfl
  have cq : Tryz.prog.cellsOf 24 = 5 := by kernel_rfl
  have cr : Tryz.prog.cellsOf 36 = 4 := by kernel_rfl
  have ce : Tryz.prog.cellsOf 34 = 1 := by kernel_rfl
  obtain ⟨_, _, h0⟩ := fld Tryz.underlying40 hn 0 0 1 3 rfl c1
  obtain ⟨_, _, h1⟩ := fld Tryz.underlying40 hn 1 1 1 3 rfl c1
  obtain ⟨_, _, h2⟩ := fld Tryz.underlying40 hn 2 2 1 3 rfl c1
  obtain ⟨_, _, h3⟩ := fld Tryz.underlying40 hn 3 3 1 3 rfl c1
  obtain ⟨y4, _, h4, f4⟩ := fldB Tryz.underlying40 hn 4 4 5 24 rfl cq
  obtain ⟨_, _, h5⟩ := fld Tryz.underlying40 hn 5 9 4 36 rfl cr
  obtain ⟨z0, e0, w0⟩ := leaf_int Tryz.underlying3 h0
  obtain ⟨z1, e1, w1⟩ := leaf_int Tryz.underlying3 h1
  obtain ⟨z2, e2, w2⟩ := leaf_int Tryz.underlying3 h2
  obtain ⟨z3, e3, w3⟩ := leaf_int Tryz.underlying3 h3
  obtain ⟨q, l, eq, hr, hc, hq, _⟩ := open_reqB h4
  obtain ⟨_, _, k0⟩ := fld Tryz.underlying36 h5 0 0 1 3 rfl c1
  obtain ⟨_, _, k1⟩ := fld Tryz.underlying36 h5 1 1 1 3 rfl c1
  obtain ⟨_, _, k2⟩ := fld Tryz.underlying36 h5 2 2 1 34 rfl ce
  obtain ⟨_, _, k3⟩ := fld Tryz.underlying36 h5 3 3 1 3 rfl c1
  obtain ⟨s0, t0, u0⟩ := leaf_int Tryz.underlying3 k0
  obtain ⟨s1, t1, u1⟩ := leaf_int Tryz.underlying3 k1
  obtain ⟨s2, t2, u2⟩ := leaf_int Tryz.underlying34 k2
  obtain ⟨s3, t3, u3⟩ := leaf_int Tryz.underlying3 k3
  have t0 := part_at t0
  have t1 := part_at t1
  have t2 := part_at t2
  have t3 := part_at t3
  have g0 := part_at (i := 0) (by rw [eq]; rfl)
  have g1 := part_at (i := 1) (by rw [eq]; rfl)
  have g2 := part_at (i := 2) (by rw [eq]; rfl)
  have g3 := part_at (i := 3) (by rw [eq]; rfl)
  have g4 := part_at (i := 4) (by rw [eq]; rfl)
  match cs, hl with
  | [a0, a1, a2, a3, a4, a5, a6, a7, a8, a9, a10, a11, a12], _ =>
    simp at e0 e1 e2 e3 t0 t1 t2 t3 g0 g1 g2 g3 g4
    subst e0 e1 e2 e3 t0 t1 t2 t3 g0 g1 g2 g3 g4
    refine ⟨⟨z0, z1, z2, z3, q, ⟨s0, s1, s2, s3⟩⟩, l, rfl, in64_of w3, in64_of w1, in64_of w2, in64_of u0, in64_of u3, in64_of u1, ?_, hc, hr⟩
    have f4' : Rows.uptoBulk y4.1 + 1 ≤ Rows.uptoBulk d := Nat.le_trans (Nat.add_le_add_left (by decide) _) f4
    show q.n ≤ _
    omega

set_option maxRecDepth 100000 in
theorem open_op {n : Nat} {cs : List Value} {y : DataW H × List MemPlace} (h : DataW.trod enc Tryz.prog w 0 (fun _ => true) held n 86 cs = some y) : ∃ a : Opr, cs = Opr.cells a ∧ In64 a.th ∧ In64 a.sq := by
  have hl := fld_len Tryz.underlying86 h
  rw [show Tryz.prog.cellsOf 86 = 8 by kernel_rfl] at hl
  have c1 : Tryz.prog.cellsOf 3 = 1 := by kernel_rfl
  have cq : Tryz.prog.cellsOf 24 = 5 := by kernel_rfl
  obtain ⟨_, _, h0⟩ := fld Tryz.underlying86 h 0 0 1 3 rfl c1
  obtain ⟨_, _, h1⟩ := fld Tryz.underlying86 h 1 1 1 3 rfl c1
  obtain ⟨_, _, h2⟩ := fld Tryz.underlying86 h 2 2 1 3 rfl c1
  obtain ⟨_, _, h3⟩ := fld Tryz.underlying86 h 3 3 5 24 rfl cq
  obtain ⟨z0, e0, w0⟩ := leaf_int Tryz.underlying3 h0
  obtain ⟨z1, e1, w1⟩ := leaf_int Tryz.underlying3 h1
  obtain ⟨z2, e2, w2⟩ := leaf_int Tryz.underlying3 h2
  obtain ⟨q, l, eq, _⟩ := open_reqB h3
  have g0 := part_at (i := 0) (by rw [eq]; rfl)
  have g1 := part_at (i := 1) (by rw [eq]; rfl)
  have g2 := part_at (i := 2) (by rw [eq]; rfl)
  have g3 := part_at (i := 3) (by rw [eq]; rfl)
  have g4 := part_at (i := 4) (by rw [eq]; rfl)
  match cs, hl with
  | [a0, a1, a2, a3, a4, a5, a6, a7], _ =>
    simp at e0 e1 e2 g0 g1 g2 g3 g4
    subst e0 e1 e2 g0 g1 g2 g3 g4
    exact ⟨⟨z0, z1, z2, q⟩, rfl, in64_of w0, in64_of w1⟩

set_option maxRecDepth 100000 in
theorem turn_arg {v : Value} {d : DataW H} {p : List MemPlace} (hv : Value.okWide Tryz.prog w .any base 42 v) (h : DataW.Trod enc Tryz.prog w 0 (fun _ => true) held 42 v d p) (hb : Rows.uptoBulk d ≤ 1048576) :
    ∃ (k : TurR) (l : List Opr), v = turnV k ∧ In64 k.tm ∧ In64 k.th ∧ l.length = k.n ∧ k.n ≤ 1048576 ∧ (∀ o ∈ l, In64 o.th ∧ In64 o.sq) ∧ Rd w k.A (rows l) := by
  obtain ⟨cs, rfl, _⟩ := okWide_struct Tryz.underlying42 hv
  obtain ⟨n, hn⟩ := h
  obtain ⟨cs⟩ := cs
  have hn : DataW.trod enc Tryz.prog w 0 (fun _ => true) held n 42 cs = some (d, p) := hn
  have hl := fld_len Tryz.underlying42 hn
  rw [show Tryz.prog.cellsOf 42 = 3 by kernel_rfl] at hl
  have c1 : Tryz.prog.cellsOf 3 = 1 := by kernel_rfl
  have cs1 : Tryz.prog.cellsOf 29 = 1 := by kernel_rfl
  obtain ⟨_, _, h0⟩ := fld Tryz.underlying42 hn 0 0 1 3 rfl c1
  obtain ⟨_, _, h1⟩ := fld Tryz.underlying42 hn 1 1 1 3 rfl c1
  obtain ⟨y2, _, h2, f2⟩ := fldB Tryz.underlying42 hn 2 2 1 29 rfl cs1
  obtain ⟨z0, e0, w0⟩ := leaf_int Tryz.underlying3 h0
  obtain ⟨z1, e1, w1⟩ := leaf_int Tryz.underlying3 h1
  obtain ⟨x4, e4, h4'⟩ := leaf_sliceW Tryz.underlying29 h2
  obtain ⟨A, l, cap, rfl, hR, hok, hcap, hbl⟩ := rd_recsN (α := Opr) (fun a => In64 a.th ∧ In64 a.sq) Tryz.underlying29 (by kernel_rfl) (by decide) (fun n cs y h => open_op h) h4'
  match cs, hl with
  | [a0, a1, a2], _ =>
    simp at e0 e1 e4
    subst e0 e1 e4
    have f2' : Rows.uptoBulk y2.1 + 1 ≤ Rows.uptoBulk d := Nat.le_trans (Nat.add_le_add_left (by decide) _) f2
    exact ⟨⟨z0, z1, A, l.length, cap⟩, l, rfl, in64_of w0, in64_of w1, rfl, by show l.length ≤ _; omega, hok, hR⟩
end

end Go.Proofs.YtalkllfgedacoaaGreatDoor
