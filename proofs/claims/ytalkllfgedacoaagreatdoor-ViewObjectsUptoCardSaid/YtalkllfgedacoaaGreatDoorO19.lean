/- A thread as a line: the program's and the document's, walked. -/
import Derived.Test.YtalkllfgedacoaaGreatDoorO6
import Derived.Test.YtalkllfgedacoaaGreatDoorO16
import Derived.Test.YtalkllfgedacoaaGreatDoorO18
namespace Go.Proofs.YtalkllfgedacoaaGreatDoor
open Go.RowKit Go.Sort

set_option maxHeartbeats 16000000 in
set_option maxRecDepth 100000 in
theorem vTask_0 (pc sq kd ar vl : Int) (df : Bool) (QA : Option Addr) (qn qc : Nat) (sl : Bool) (rd : Int) (r0 r1 r2 r3 r4 r5 r6 r7 r8 r9 r10 r11 r12 r13 r14 r15 r16 r17 r18 r19 r20 r21 r22 r23 r24 : Value) (cs : List Cse) (w : World) (hpc : pc = 0) (h1 : In64 sq) (h2 : In64 rd) (hn : qn ≤ 1048570) (hc : CallIn ⟨kd, ar, vl, df, QA, qn, qc⟩ cs) (hv : VIn ⟨kd, ar, vl, df, QA, qn, qc⟩ cs w) :
    Calls Tryz.prog 9 #[.agg #[.int .i64 pc, .int .i64 sq, .int .i64 kd, .int .i64 ar, .int .i64 vl, .bool df, .slice QA qn qc, .bool sl, .int .i64 rd, r0, r1, r2, r3, r4, r5, r6, r7, r8, r9, r10, r11, r12, r13, r14, r15, r16, r17, r18, r19, r20, r21, r22, r23, r24]] w fun e w' => e = .returned (.string (taskS ⟨pc, sq, ⟨kd, ar, vl, df, QA, qn, qc⟩, sl, rd, r0, r1, r2, r3, r4, r5, r6, r7, r8, r9, r10, r11, r12, r13, r14, r15, r16, r17, r18, r19, r20, r21, r22, r23, r24⟩ cs)) ∧ Below w.heap.size w w' := by
  have HX : RowKit.Hid (Blk (w.alloc (.cells #[.int .i64 pc, .int .i64 sq, .int .i64 kd, .int .i64 ar, .int .i64 vl, .bool df, .slice QA qn qc, .bool sl, .int .i64 rd, r0, r1, r2, r3, r4, r5, r6, r7, r8, r9, r10, r11, r12, r13, r14, r15, r16, r17, r18, r19, r20, r21, r22, r23, r24] 38)) w.heap.size 38 [.int .i64 pc, .int .i64 sq, .int .i64 kd, .int .i64 ar, .int .i64 vl, .bool df, .slice QA qn qc, .bool sl, .int .i64 rd, r0, r1, r2, r3, r4, r5, r6, r7, r8, r9, r10, r11, r12, r13, r14, r15, r16, r17, r18, r19, r20, r21, r22, r23, r24]) := Lib.hid (Blk.new w _ _)
  have HB0 := Lib.hid ((Below.refl w.heap.size w).alloc (Nat.le_refl _) (.cells #[.int .i64 pc, .int .i64 sq, .int .i64 kd, .int .i64 ar, .int .i64 vl, .bool df, .slice QA qn qc, .bool sl, .int .i64 rd, r0, r1, r2, r3, r4, r5, r6, r7, r8, r9, r10, r11, r12, r13, r14, r15, r16, r17, r18, r19, r20, r21, r22, r23, r24] 38))
  have HVAL : RowKit.Hid (taskS ⟨pc, sq, ⟨kd, ar, vl, df, QA, qn, qc⟩, sl, rd, r0, r1, r2, r3, r4, r5, r6, r7, r8, r9, r10, r11, r12, r13, r14, r15, r16, r17, r18, r19, r20, r21, r22, r23, r24⟩ cs = stepS pc ++ ⟨#[32]⟩ ++ itoaS sq) := Lib.hid (by unfold taskS; simp [hpc])
  have HPP := Lib.hid (hv.below HB0.out)
  have HS := Lib.hid (fun W (_ : VIn ⟨kd, ar, vl, df, QA, qn, qc⟩ cs W) => stepS_any pc W)
  have HD1 := Lib.hid (fun W (h : VIn ⟨kd, ar, vl, df, QA, qn, qc⟩ cs W) => dec_any sq W h1 h.tab)
  have HD2 := Lib.hid (fun W (h : VIn ⟨kd, ar, vl, df, QA, qn, qc⟩ cs W) => dec_any rd W h2 h.tab)
  have HC := Lib.hid (fun W (h : VIn ⟨kd, ar, vl, df, QA, qn, qc⟩ cs W) => Say24_any ⟨kd, ar, vl, df, QA, qn, qc⟩ cs W h.req hn hc h.err h.tab h.ml)
  have b0 : (pc == 0) = true := by simp [hpc]
  have k1 := stepS_size pc
  have k2 := itoaS_size h1
  have k3 := itoaS_size h2
  have k4 := callS_size hc
  have k5 := hv.req.len
  simp only at k5
  unfold reqV at HC
  simp only at HC
  generalize hP : VIn ⟨kd, ar, vl, df, QA, qn, qc⟩ cs = P at *
  have HBL : RowKit.Hid (∀ (w w' : World), P w → Below w.heap.size w w' → P w') := Lib.hid (by rw [← hP]; exact fun w w' h hb => VIn.below h hb)
  generalize taskS ⟨pc, sq, ⟨kd, ar, vl, df, QA, qn, qc⟩, sl, rd, r0, r1, r2, r3, r4, r5, r6, r7, r8, r9, r10, r11, r12, r13, r14, r15, r16, r17, r18, r19, r20, r21, r22, r23, r24⟩ cs = T at *
  generalize stepS pc = p at *
  generalize itoaS sq = z1 at *
  generalize itoaS rd = z2 at *
  generalize callS ⟨kd, ar, vl, df, QA, qn, qc⟩ cs = cc at *
  have d0 : ¬ 9223372036854775807 < p.size + 1 := by omega
  have d1 : ¬ 9223372036854775807 < p.size + 1 + z1.size := by omega
  have d2 : ¬ 9223372036854775807 < 1 + z1.size := by omega
  have d3 : ¬ 9223372036854775807 < 1 + z1.size + 1 := by omega
  have d4 : ¬ 9223372036854775807 < 1 + z1.size + 1 + cc.size := by omega
  have d5 : ¬ 9223372036854775807 < p.size + (1 + z1.size + 1 + cc.size) := by omega
  have d6 : ¬ 9223372036854775807 < p.size + (1 + z1.size + 1 + cc.size) + 7 := by omega
  have d7 : ¬ 9223372036854775807 < p.size + (1 + z1.size + 1 + cc.size) + 7 + z2.size := by omega
  have d8 : ¬ 9223372036854775807 < p.size + 1 + z1.size + 1 := by omega
  have d9 : ¬ 9223372036854775807 < p.size + 1 + z1.size + 1 + cc.size := by omega
  have d10 : ¬ 9223372036854775807 < p.size + 1 + z1.size + 1 + cc.size + 7 := by omega
  have d11 : ¬ 9223372036854775807 < p.size + 1 + z1.size + 1 + cc.size + 7 + z2.size := by omega
  clear hP hpc h1 h2 hn hc hv k1 k2 k3 k4 k5
  go_enter Tryz.func9, Tryz.ntmps9
  go_upto_region 1 with (fail)
  generalize w.alloc (.cells #[.int .i64 pc, .int .i64 sq, .int .i64 kd, .int .i64 ar, .int .i64 vl, .bool df, .slice QA qn qc, .bool sl, .int .i64 rd, r0, r1, r2, r3, r4, r5, r6, r7, r8, r9, r10, r11, r12, r13, r14, r15, r16, r17, r18, r19, r20, r21, r22, r23, r24] 38) = W0 at *
  have hwl0 := HX.out.lt
  have x0 := HX.out.cell (i := 0) rfl
  have x1 := HX.out.cell (i := 1) rfl
  have x2 := HX.out.cell (i := 2) rfl
  have x3 := HX.out.cell (i := 3) rfl
  have x4 := HX.out.cell (i := 4) rfl
  have x5 := HX.out.cell (i := 5) rfl
  have x6 := HX.out.cell (i := 6) rfl
  have x7 := HX.out.cell (i := 7) rfl
  have x8 := HX.out.cell (i := 8) rfl
  go_upto_region 2 with (go_at_call 34; refine (HS.out _ HPP.out).mono ?_; rintro er W1 ⟨rfl, hb1⟩)
  have HPW := Lib.hid (HBL.out _ _ HPP.out hb1)
  have HB1 := Lib.hid (HB0.out.trans (hb1.mono HB0.out.size))
  have HX1 := Lib.hid (HX.out.below hb1 hwl0)
  clear HPP hb1 x0 x1 x2 x3 x4 x5 x6 x7 x8 HX HB0 hwl0
  have x0 := HX1.out.cell (i := 0) rfl
  have x1 := HX1.out.cell (i := 1) rfl
  have x2 := HX1.out.cell (i := 2) rfl
  have x3 := HX1.out.cell (i := 3) rfl
  have x4 := HX1.out.cell (i := 4) rfl
  have x5 := HX1.out.cell (i := 5) rfl
  have x6 := HX1.out.cell (i := 6) rfl
  have x7 := HX1.out.cell (i := 7) rfl
  have x8 := HX1.out.cell (i := 8) rfl
  have hwl := HX1.out.lt
  go_wp2_with (go_at_call 35; refine (HD1.out _ HPW.out).mono ?_; rintro er W2 ⟨rfl, hb2⟩)
  go_ret
  exact ⟨by rw [HVAL.out]; rfl, HB1.out.trans (hb2.mono HB1.out.size)⟩

set_option maxHeartbeats 16000000 in
set_option maxRecDepth 100000 in
theorem vTask_t (pc sq kd ar vl : Int) (df : Bool) (QA : Option Addr) (qn qc : Nat) (rd : Int) (r0 r1 r2 r3 r4 r5 r6 r7 r8 r9 r10 r11 r12 r13 r14 r15 r16 r17 r18 r19 r20 r21 r22 r23 r24 : Value) (cs : List Cse) (w : World) (hpc : ¬ pc = 0) (h1 : In64 sq) (h2 : In64 rd) (hn : qn ≤ 1048570) (hc : CallIn ⟨kd, ar, vl, df, QA, qn, qc⟩ cs) (hv : VIn ⟨kd, ar, vl, df, QA, qn, qc⟩ cs w) :
    Calls Tryz.prog 9 #[.agg #[.int .i64 pc, .int .i64 sq, .int .i64 kd, .int .i64 ar, .int .i64 vl, .bool df, .slice QA qn qc, .bool true, .int .i64 rd, r0, r1, r2, r3, r4, r5, r6, r7, r8, r9, r10, r11, r12, r13, r14, r15, r16, r17, r18, r19, r20, r21, r22, r23, r24]] w fun e w' => e = .returned (.string (taskS ⟨pc, sq, ⟨kd, ar, vl, df, QA, qn, qc⟩, true, rd, r0, r1, r2, r3, r4, r5, r6, r7, r8, r9, r10, r11, r12, r13, r14, r15, r16, r17, r18, r19, r20, r21, r22, r23, r24⟩ cs)) ∧ Below w.heap.size w w' := by
  have HX : RowKit.Hid (Blk (w.alloc (.cells #[.int .i64 pc, .int .i64 sq, .int .i64 kd, .int .i64 ar, .int .i64 vl, .bool df, .slice QA qn qc, .bool true, .int .i64 rd, r0, r1, r2, r3, r4, r5, r6, r7, r8, r9, r10, r11, r12, r13, r14, r15, r16, r17, r18, r19, r20, r21, r22, r23, r24] 38)) w.heap.size 38 [.int .i64 pc, .int .i64 sq, .int .i64 kd, .int .i64 ar, .int .i64 vl, .bool df, .slice QA qn qc, .bool true, .int .i64 rd, r0, r1, r2, r3, r4, r5, r6, r7, r8, r9, r10, r11, r12, r13, r14, r15, r16, r17, r18, r19, r20, r21, r22, r23, r24]) := Lib.hid (Blk.new w _ _)
  have HB0 := Lib.hid ((Below.refl w.heap.size w).alloc (Nat.le_refl _) (.cells #[.int .i64 pc, .int .i64 sq, .int .i64 kd, .int .i64 ar, .int .i64 vl, .bool df, .slice QA qn qc, .bool true, .int .i64 rd, r0, r1, r2, r3, r4, r5, r6, r7, r8, r9, r10, r11, r12, r13, r14, r15, r16, r17, r18, r19, r20, r21, r22, r23, r24] 38))
  have HVAL : RowKit.Hid (taskS ⟨pc, sq, ⟨kd, ar, vl, df, QA, qn, qc⟩, true, rd, r0, r1, r2, r3, r4, r5, r6, r7, r8, r9, r10, r11, r12, r13, r14, r15, r16, r17, r18, r19, r20, r21, r22, r23, r24⟩ cs = stepS pc ++ ⟨#[32]⟩ ++ itoaS sq ++ ⟨#[32]⟩ ++ callS ⟨kd, ar, vl, df, QA, qn, qc⟩ cs ++ ⟨#[32, 115, 108, 111, 119]⟩ ++ ⟨#[32, 114, 111, 117, 110, 100, 32]⟩ ++ itoaS rd) := Lib.hid (by unfold taskS; simp [hpc])
  have HPP := Lib.hid (hv.below HB0.out)
  have HS := Lib.hid (fun W (_ : VIn ⟨kd, ar, vl, df, QA, qn, qc⟩ cs W) => stepS_any pc W)
  have HD1 := Lib.hid (fun W (h : VIn ⟨kd, ar, vl, df, QA, qn, qc⟩ cs W) => dec_any sq W h1 h.tab)
  have HD2 := Lib.hid (fun W (h : VIn ⟨kd, ar, vl, df, QA, qn, qc⟩ cs W) => dec_any rd W h2 h.tab)
  have HC := Lib.hid (fun W (h : VIn ⟨kd, ar, vl, df, QA, qn, qc⟩ cs W) => Say24_any ⟨kd, ar, vl, df, QA, qn, qc⟩ cs W h.req hn hc h.err h.tab h.ml)
  have b0 : (pc == 0) = false := by simp [hpc]
  have k1 := stepS_size pc
  have k2 := itoaS_size h1
  have k3 := itoaS_size h2
  have k4 := callS_size hc
  have k5 := hv.req.len
  simp only at k5
  unfold reqV at HC
  simp only at HC
  generalize hP : VIn ⟨kd, ar, vl, df, QA, qn, qc⟩ cs = P at *
  have HBL : RowKit.Hid (∀ (w w' : World), P w → Below w.heap.size w w' → P w') := Lib.hid (by rw [← hP]; exact fun w w' h hb => VIn.below h hb)
  generalize taskS ⟨pc, sq, ⟨kd, ar, vl, df, QA, qn, qc⟩, true, rd, r0, r1, r2, r3, r4, r5, r6, r7, r8, r9, r10, r11, r12, r13, r14, r15, r16, r17, r18, r19, r20, r21, r22, r23, r24⟩ cs = T at *
  generalize stepS pc = p at *
  generalize itoaS sq = z1 at *
  generalize itoaS rd = z2 at *
  generalize callS ⟨kd, ar, vl, df, QA, qn, qc⟩ cs = cc at *
  have d0 : ¬ 9223372036854775807 < p.size + 1 := by omega
  have d1 : ¬ 9223372036854775807 < p.size + 1 + z1.size := by omega
  have d2 : ¬ 9223372036854775807 < 1 + z1.size := by omega
  have d3 : ¬ 9223372036854775807 < 1 + z1.size + 1 := by omega
  have d4 : ¬ 9223372036854775807 < 1 + z1.size + 1 + cc.size := by omega
  have d5 : ¬ 9223372036854775807 < p.size + (1 + z1.size + 1 + cc.size) := by omega
  have d6 : ¬ 9223372036854775807 < p.size + (1 + z1.size + 1 + cc.size) + 5 := by omega
  have d7 : ¬ 9223372036854775807 < p.size + (1 + z1.size + 1 + cc.size) + 5 + 7 := by omega
  have d8 : ¬ 9223372036854775807 < p.size + (1 + z1.size + 1 + cc.size) + 5 + 7 + z2.size := by omega
  have d9 : ¬ 9223372036854775807 < p.size + 1 + z1.size + 1 := by omega
  have d10 : ¬ 9223372036854775807 < p.size + 1 + z1.size + 1 + cc.size := by omega
  have d11 : ¬ 9223372036854775807 < p.size + 1 + z1.size + 1 + cc.size + 5 := by omega
  have d12 : ¬ 9223372036854775807 < p.size + 1 + z1.size + 1 + cc.size + 5 + 7 := by omega
  have d13 : ¬ 9223372036854775807 < p.size + 1 + z1.size + 1 + cc.size + 5 + 7 + z2.size := by omega
  clear hP hpc h1 h2 hn hc hv k1 k2 k3 k4 k5
  go_enter Tryz.func9, Tryz.ntmps9
  go_upto_region 1 with (fail)
  generalize w.alloc (.cells #[.int .i64 pc, .int .i64 sq, .int .i64 kd, .int .i64 ar, .int .i64 vl, .bool df, .slice QA qn qc, .bool true, .int .i64 rd, r0, r1, r2, r3, r4, r5, r6, r7, r8, r9, r10, r11, r12, r13, r14, r15, r16, r17, r18, r19, r20, r21, r22, r23, r24] 38) = W0 at *
  have hwl0 := HX.out.lt
  have x0 := HX.out.cell (i := 0) rfl
  have x1 := HX.out.cell (i := 1) rfl
  have x2 := HX.out.cell (i := 2) rfl
  have x3 := HX.out.cell (i := 3) rfl
  have x4 := HX.out.cell (i := 4) rfl
  have x5 := HX.out.cell (i := 5) rfl
  have x6 := HX.out.cell (i := 6) rfl
  have x7 := HX.out.cell (i := 7) rfl
  have x8 := HX.out.cell (i := 8) rfl
  go_upto_region 2 with (go_at_call 34; refine (HS.out _ HPP.out).mono ?_; rintro er W1 ⟨rfl, hb1⟩)
  have HPW := Lib.hid (HBL.out _ _ HPP.out hb1)
  have HB1 := Lib.hid (HB0.out.trans (hb1.mono HB0.out.size))
  have HX1 := Lib.hid (HX.out.below hb1 hwl0)
  clear HPP hb1 x0 x1 x2 x3 x4 x5 x6 x7 x8 HX HB0 hwl0
  have x0 := HX1.out.cell (i := 0) rfl
  have x1 := HX1.out.cell (i := 1) rfl
  have x2 := HX1.out.cell (i := 2) rfl
  have x3 := HX1.out.cell (i := 3) rfl
  have x4 := HX1.out.cell (i := 4) rfl
  have x5 := HX1.out.cell (i := 5) rfl
  have x6 := HX1.out.cell (i := 6) rfl
  have x7 := HX1.out.cell (i := 7) rfl
  have x8 := HX1.out.cell (i := 8) rfl
  have hwl := HX1.out.lt
  have HP0 : RowKit.Hid (P W1.drew) := Lib.hid (HBL.out _ _ HPW.out (Below.drewN' (Below.refl _ _) 1))
  go_upto_region 4 with (fail)
  go_region_held3 (fun w' => w'.cell? ⟨w.heap.size, 0, none⟩ = some (.int .i64 pc) ∧ w'.cell? ⟨w.heap.size, 1, none⟩ = some (.int .i64 sq) ∧ w'.cell? ⟨w.heap.size, 2, none⟩ = some (.int .i64 kd) ∧ w'.cell? ⟨w.heap.size, 3, none⟩ = some (.int .i64 ar) ∧ w'.cell? ⟨w.heap.size, 4, none⟩ = some (.int .i64 vl) ∧ w'.cell? ⟨w.heap.size, 5, none⟩ = some (.bool df) ∧ w'.cell? ⟨w.heap.size, 6, none⟩ = some (.slice QA qn qc) ∧ w'.cell? ⟨w.heap.size, 7, none⟩ = some (.bool true) ∧ w'.cell? ⟨w.heap.size, 8, none⟩ = some (.int .i64 rd)) (first | go_keep | (simp only [hk0]; go_keep)) (first
    | (go_at_call 35; (with_reducible refine (HD1.out W1.drew HP0.out).mono ?_); rintro er v1 ⟨rfl, hb1⟩; have hB1 : Below W1.heap.size W1 v1 := ⟨hb1.os, hb1.tape, hb1.output, hb1.size, hb1.block⟩; have hk0 := fun o => hB1.cell (p := ⟨w.heap.size, o, none⟩) hwl; have HP1 := Lib.hid (HBL.out _ _ HPW.out hB1))
    | (go_at_call 31; (with_reducible refine (HC.out v1 HP1.out).mono ?_); rintro er v2 ⟨rfl, hb2⟩; have hB2 : Below W1.heap.size W1 v2 := hB1.trans (hb2.mono hB1.size); have hk0 := fun o => hB2.cell (p := ⟨w.heap.size, o, none⟩) hwl; have HP2 := Lib.hid (HBL.out _ _ HPW.out hB2)))
  have HB2 := Lib.hid (HB1.out.trans (hB2.mono HB1.out.size))
  have x7 := (hB2.cell (p := ⟨w.heap.size, 7, none⟩) hwl).trans x7
  have x8 := (hB2.cell (p := ⟨w.heap.size, 8, none⟩) hwl).trans x8
  go_wp2_with (go_at_call 35; refine (HD2.out _ HP2.out).mono ?_; rintro er W3 ⟨rfl, hb3⟩)
  go_ret
  exact ⟨by rw [HVAL.out]; simp only [ByteArray.append_assoc]; rfl, HB2.out.trans (hb3.mono HB2.out.size)⟩

set_option maxHeartbeats 16000000 in
set_option maxRecDepth 100000 in
theorem vTask_f (pc sq kd ar vl : Int) (df : Bool) (QA : Option Addr) (qn qc : Nat) (rd : Int) (r0 r1 r2 r3 r4 r5 r6 r7 r8 r9 r10 r11 r12 r13 r14 r15 r16 r17 r18 r19 r20 r21 r22 r23 r24 : Value) (cs : List Cse) (w : World) (hpc : ¬ pc = 0) (h1 : In64 sq) (h2 : In64 rd) (hn : qn ≤ 1048570) (hc : CallIn ⟨kd, ar, vl, df, QA, qn, qc⟩ cs) (hv : VIn ⟨kd, ar, vl, df, QA, qn, qc⟩ cs w) :
    Calls Tryz.prog 9 #[.agg #[.int .i64 pc, .int .i64 sq, .int .i64 kd, .int .i64 ar, .int .i64 vl, .bool df, .slice QA qn qc, .bool false, .int .i64 rd, r0, r1, r2, r3, r4, r5, r6, r7, r8, r9, r10, r11, r12, r13, r14, r15, r16, r17, r18, r19, r20, r21, r22, r23, r24]] w fun e w' => e = .returned (.string (taskS ⟨pc, sq, ⟨kd, ar, vl, df, QA, qn, qc⟩, false, rd, r0, r1, r2, r3, r4, r5, r6, r7, r8, r9, r10, r11, r12, r13, r14, r15, r16, r17, r18, r19, r20, r21, r22, r23, r24⟩ cs)) ∧ Below w.heap.size w w' := by
  have HX : RowKit.Hid (Blk (w.alloc (.cells #[.int .i64 pc, .int .i64 sq, .int .i64 kd, .int .i64 ar, .int .i64 vl, .bool df, .slice QA qn qc, .bool false, .int .i64 rd, r0, r1, r2, r3, r4, r5, r6, r7, r8, r9, r10, r11, r12, r13, r14, r15, r16, r17, r18, r19, r20, r21, r22, r23, r24] 38)) w.heap.size 38 [.int .i64 pc, .int .i64 sq, .int .i64 kd, .int .i64 ar, .int .i64 vl, .bool df, .slice QA qn qc, .bool false, .int .i64 rd, r0, r1, r2, r3, r4, r5, r6, r7, r8, r9, r10, r11, r12, r13, r14, r15, r16, r17, r18, r19, r20, r21, r22, r23, r24]) := Lib.hid (Blk.new w _ _)
  have HB0 := Lib.hid ((Below.refl w.heap.size w).alloc (Nat.le_refl _) (.cells #[.int .i64 pc, .int .i64 sq, .int .i64 kd, .int .i64 ar, .int .i64 vl, .bool df, .slice QA qn qc, .bool false, .int .i64 rd, r0, r1, r2, r3, r4, r5, r6, r7, r8, r9, r10, r11, r12, r13, r14, r15, r16, r17, r18, r19, r20, r21, r22, r23, r24] 38))
  have HVAL : RowKit.Hid (taskS ⟨pc, sq, ⟨kd, ar, vl, df, QA, qn, qc⟩, false, rd, r0, r1, r2, r3, r4, r5, r6, r7, r8, r9, r10, r11, r12, r13, r14, r15, r16, r17, r18, r19, r20, r21, r22, r23, r24⟩ cs = stepS pc ++ ⟨#[32]⟩ ++ itoaS sq ++ ⟨#[32]⟩ ++ callS ⟨kd, ar, vl, df, QA, qn, qc⟩ cs ++ ⟨#[32, 114, 111, 117, 110, 100, 32]⟩ ++ itoaS rd) := Lib.hid (by unfold taskS; simp [hpc])
  have HPP := Lib.hid (hv.below HB0.out)
  have HS := Lib.hid (fun W (_ : VIn ⟨kd, ar, vl, df, QA, qn, qc⟩ cs W) => stepS_any pc W)
  have HD1 := Lib.hid (fun W (h : VIn ⟨kd, ar, vl, df, QA, qn, qc⟩ cs W) => dec_any sq W h1 h.tab)
  have HD2 := Lib.hid (fun W (h : VIn ⟨kd, ar, vl, df, QA, qn, qc⟩ cs W) => dec_any rd W h2 h.tab)
  have HC := Lib.hid (fun W (h : VIn ⟨kd, ar, vl, df, QA, qn, qc⟩ cs W) => Say24_any ⟨kd, ar, vl, df, QA, qn, qc⟩ cs W h.req hn hc h.err h.tab h.ml)
  have b0 : (pc == 0) = false := by simp [hpc]
  have k1 := stepS_size pc
  have k2 := itoaS_size h1
  have k3 := itoaS_size h2
  have k4 := callS_size hc
  have k5 := hv.req.len
  simp only at k5
  unfold reqV at HC
  simp only at HC
  generalize hP : VIn ⟨kd, ar, vl, df, QA, qn, qc⟩ cs = P at *
  have HBL : RowKit.Hid (∀ (w w' : World), P w → Below w.heap.size w w' → P w') := Lib.hid (by rw [← hP]; exact fun w w' h hb => VIn.below h hb)
  generalize taskS ⟨pc, sq, ⟨kd, ar, vl, df, QA, qn, qc⟩, false, rd, r0, r1, r2, r3, r4, r5, r6, r7, r8, r9, r10, r11, r12, r13, r14, r15, r16, r17, r18, r19, r20, r21, r22, r23, r24⟩ cs = T at *
  generalize stepS pc = p at *
  generalize itoaS sq = z1 at *
  generalize itoaS rd = z2 at *
  generalize callS ⟨kd, ar, vl, df, QA, qn, qc⟩ cs = cc at *
  have d0 : ¬ 9223372036854775807 < p.size + 1 := by omega
  have d1 : ¬ 9223372036854775807 < p.size + 1 + z1.size := by omega
  have d2 : ¬ 9223372036854775807 < 1 + z1.size := by omega
  have d3 : ¬ 9223372036854775807 < 1 + z1.size + 1 := by omega
  have d4 : ¬ 9223372036854775807 < 1 + z1.size + 1 + cc.size := by omega
  have d5 : ¬ 9223372036854775807 < p.size + (1 + z1.size + 1 + cc.size) := by omega
  have d6 : ¬ 9223372036854775807 < p.size + (1 + z1.size + 1 + cc.size) + 7 := by omega
  have d7 : ¬ 9223372036854775807 < p.size + (1 + z1.size + 1 + cc.size) + 7 + z2.size := by omega
  have d8 : ¬ 9223372036854775807 < p.size + 1 + z1.size + 1 := by omega
  have d9 : ¬ 9223372036854775807 < p.size + 1 + z1.size + 1 + cc.size := by omega
  have d10 : ¬ 9223372036854775807 < p.size + 1 + z1.size + 1 + cc.size + 7 := by omega
  have d11 : ¬ 9223372036854775807 < p.size + 1 + z1.size + 1 + cc.size + 7 + z2.size := by omega
  clear hP hpc h1 h2 hn hc hv k1 k2 k3 k4 k5
  go_enter Tryz.func9, Tryz.ntmps9
  go_upto_region 1 with (fail)
  generalize w.alloc (.cells #[.int .i64 pc, .int .i64 sq, .int .i64 kd, .int .i64 ar, .int .i64 vl, .bool df, .slice QA qn qc, .bool false, .int .i64 rd, r0, r1, r2, r3, r4, r5, r6, r7, r8, r9, r10, r11, r12, r13, r14, r15, r16, r17, r18, r19, r20, r21, r22, r23, r24] 38) = W0 at *
  have hwl0 := HX.out.lt
  have x0 := HX.out.cell (i := 0) rfl
  have x1 := HX.out.cell (i := 1) rfl
  have x2 := HX.out.cell (i := 2) rfl
  have x3 := HX.out.cell (i := 3) rfl
  have x4 := HX.out.cell (i := 4) rfl
  have x5 := HX.out.cell (i := 5) rfl
  have x6 := HX.out.cell (i := 6) rfl
  have x7 := HX.out.cell (i := 7) rfl
  have x8 := HX.out.cell (i := 8) rfl
  go_upto_region 2 with (go_at_call 34; refine (HS.out _ HPP.out).mono ?_; rintro er W1 ⟨rfl, hb1⟩)
  have HPW := Lib.hid (HBL.out _ _ HPP.out hb1)
  have HB1 := Lib.hid (HB0.out.trans (hb1.mono HB0.out.size))
  have HX1 := Lib.hid (HX.out.below hb1 hwl0)
  clear HPP hb1 x0 x1 x2 x3 x4 x5 x6 x7 x8 HX HB0 hwl0
  have x0 := HX1.out.cell (i := 0) rfl
  have x1 := HX1.out.cell (i := 1) rfl
  have x2 := HX1.out.cell (i := 2) rfl
  have x3 := HX1.out.cell (i := 3) rfl
  have x4 := HX1.out.cell (i := 4) rfl
  have x5 := HX1.out.cell (i := 5) rfl
  have x6 := HX1.out.cell (i := 6) rfl
  have x7 := HX1.out.cell (i := 7) rfl
  have x8 := HX1.out.cell (i := 8) rfl
  have hwl := HX1.out.lt
  have HP0 : RowKit.Hid (P W1.drew) := Lib.hid (HBL.out _ _ HPW.out (Below.drewN' (Below.refl _ _) 1))
  go_upto_region 4 with (fail)
  go_region_held3 (fun w' => w'.cell? ⟨w.heap.size, 0, none⟩ = some (.int .i64 pc) ∧ w'.cell? ⟨w.heap.size, 1, none⟩ = some (.int .i64 sq) ∧ w'.cell? ⟨w.heap.size, 2, none⟩ = some (.int .i64 kd) ∧ w'.cell? ⟨w.heap.size, 3, none⟩ = some (.int .i64 ar) ∧ w'.cell? ⟨w.heap.size, 4, none⟩ = some (.int .i64 vl) ∧ w'.cell? ⟨w.heap.size, 5, none⟩ = some (.bool df) ∧ w'.cell? ⟨w.heap.size, 6, none⟩ = some (.slice QA qn qc) ∧ w'.cell? ⟨w.heap.size, 7, none⟩ = some (.bool false) ∧ w'.cell? ⟨w.heap.size, 8, none⟩ = some (.int .i64 rd)) (first | go_keep | (simp only [hk0]; go_keep)) (first
    | (go_at_call 35; (with_reducible refine (HD1.out W1.drew HP0.out).mono ?_); rintro er v1 ⟨rfl, hb1⟩; have hB1 : Below W1.heap.size W1 v1 := ⟨hb1.os, hb1.tape, hb1.output, hb1.size, hb1.block⟩; have hk0 := fun o => hB1.cell (p := ⟨w.heap.size, o, none⟩) hwl; have HP1 := Lib.hid (HBL.out _ _ HPW.out hB1))
    | (go_at_call 31; (with_reducible refine (HC.out v1 HP1.out).mono ?_); rintro er v2 ⟨rfl, hb2⟩; have hB2 : Below W1.heap.size W1 v2 := hB1.trans (hb2.mono hB1.size); have hk0 := fun o => hB2.cell (p := ⟨w.heap.size, o, none⟩) hwl; have HP2 := Lib.hid (HBL.out _ _ HPW.out hB2)))
  have HB2 := Lib.hid (HB1.out.trans (hB2.mono HB1.out.size))
  have x7 := (hB2.cell (p := ⟨w.heap.size, 7, none⟩) hwl).trans x7
  have x8 := (hB2.cell (p := ⟨w.heap.size, 8, none⟩) hwl).trans x8
  go_wp2_with (go_at_call 35; refine (HD2.out _ HP2.out).mono ?_; rintro er W3 ⟨rfl, hb3⟩)
  go_ret
  exact ⟨by rw [HVAL.out]; simp only [ByteArray.append_assoc]; rfl, HB2.out.trans (hb3.mono HB2.out.size)⟩

theorem vTask_any (k : Tsk) (cs : List Cse) (w : World) (h1 : In64 k.sq) (h2 : In64 k.rd) (hn : k.q.n ≤ 1048570) (hc : CallIn k.q cs) (hv : VIn k.q cs w) :
    Calls Tryz.prog 9 #[taskV k] w fun e w' => e = .returned (.string (taskS k cs)) ∧ Below w.heap.size w w' := by
  obtain ⟨pc, sq, ⟨kd, ar, vl, df, QA, qn, qc⟩, sl, rd, r0, r1, r2, r3, r4, r5, r6, r7, r8, r9, r10, r11, r12, r13, r14, r15, r16, r17, r18, r19, r20, r21, r22, r23, r24⟩ := k
  by_cases hpc : pc = 0
  · exact vTask_0 pc sq kd ar vl df QA qn qc sl rd r0 r1 r2 r3 r4 r5 r6 r7 r8 r9 r10 r11 r12 r13 r14 r15 r16 r17 r18 r19 r20 r21 r22 r23 r24 cs w hpc h1 h2 hn hc hv
  · cases sl with
    | true => exact vTask_t pc sq kd ar vl df QA qn qc rd r0 r1 r2 r3 r4 r5 r6 r7 r8 r9 r10 r11 r12 r13 r14 r15 r16 r17 r18 r19 r20 r21 r22 r23 r24 cs w hpc h1 h2 hn hc hv
    | false => exact vTask_f pc sq kd ar vl df QA qn qc rd r0 r1 r2 r3 r4 r5 r6 r7 r8 r9 r10 r11 r12 r13 r14 r15 r16 r17 r18 r19 r20 r21 r22 r23 r24 cs w hpc h1 h2 hn hc hv

set_option maxHeartbeats 16000000 in
set_option maxRecDepth 100000 in
theorem rTask_0 (pc sq kd ar vl : Int) (df : Bool) (QA : Option Addr) (qn qc : Nat) (sl : Bool) (rd : Int) (r0 r1 r2 r3 r4 r5 r6 r7 r8 r9 r10 r11 r12 r13 r14 r15 r16 r17 r18 r19 r20 r21 r22 r23 r24 : Value) (cs : List Cse) (w : World) (hpc : pc = 0) (h1 : In64 sq) (h2 : In64 rd) (hn : qn ≤ 1048570) (hc : CallIn ⟨kd, ar, vl, df, QA, qn, qc⟩ cs) (hv : VIn ⟨kd, ar, vl, df, QA, qn, qc⟩ cs w) :
    Calls Tryz.prog 10 #[.agg #[.int .i64 pc, .int .i64 sq, .int .i64 kd, .int .i64 ar, .int .i64 vl, .bool df, .slice QA qn qc, .bool sl, .int .i64 rd, r0, r1, r2, r3, r4, r5, r6, r7, r8, r9, r10, r11, r12, r13, r14, r15, r16, r17, r18, r19, r20, r21, r22, r23, r24]] w fun e w' => e = .returned (.string (taskS ⟨pc, sq, ⟨kd, ar, vl, df, QA, qn, qc⟩, sl, rd, r0, r1, r2, r3, r4, r5, r6, r7, r8, r9, r10, r11, r12, r13, r14, r15, r16, r17, r18, r19, r20, r21, r22, r23, r24⟩ cs)) ∧ Below w.heap.size w w' := by
  have HX : RowKit.Hid (Blk (w.alloc (.cells #[.int .i64 pc, .int .i64 sq, .int .i64 kd, .int .i64 ar, .int .i64 vl, .bool df, .slice QA qn qc, .bool sl, .int .i64 rd, r0, r1, r2, r3, r4, r5, r6, r7, r8, r9, r10, r11, r12, r13, r14, r15, r16, r17, r18, r19, r20, r21, r22, r23, r24] 38)) w.heap.size 38 [.int .i64 pc, .int .i64 sq, .int .i64 kd, .int .i64 ar, .int .i64 vl, .bool df, .slice QA qn qc, .bool sl, .int .i64 rd, r0, r1, r2, r3, r4, r5, r6, r7, r8, r9, r10, r11, r12, r13, r14, r15, r16, r17, r18, r19, r20, r21, r22, r23, r24]) := Lib.hid (Blk.new w _ _)
  have HB0 := Lib.hid ((Below.refl w.heap.size w).alloc (Nat.le_refl _) (.cells #[.int .i64 pc, .int .i64 sq, .int .i64 kd, .int .i64 ar, .int .i64 vl, .bool df, .slice QA qn qc, .bool sl, .int .i64 rd, r0, r1, r2, r3, r4, r5, r6, r7, r8, r9, r10, r11, r12, r13, r14, r15, r16, r17, r18, r19, r20, r21, r22, r23, r24] 38))
  have HVAL : RowKit.Hid (taskS ⟨pc, sq, ⟨kd, ar, vl, df, QA, qn, qc⟩, sl, rd, r0, r1, r2, r3, r4, r5, r6, r7, r8, r9, r10, r11, r12, r13, r14, r15, r16, r17, r18, r19, r20, r21, r22, r23, r24⟩ cs = stepS pc ++ ⟨#[32]⟩ ++ itoaS sq) := Lib.hid (by unfold taskS; simp [hpc])
  have HPP := Lib.hid (hv.below HB0.out)
  have HS := Lib.hid (fun W (_ : VIn ⟨kd, ar, vl, df, QA, qn, qc⟩ cs W) => rstepS_any pc W)
  have HD1 := Lib.hid (fun W (h : VIn ⟨kd, ar, vl, df, QA, qn, qc⟩ cs W) => rdec_any sq W h1)
  have HD2 := Lib.hid (fun W (h : VIn ⟨kd, ar, vl, df, QA, qn, qc⟩ cs W) => rdec_any rd W h2)
  have HC := Lib.hid (fun W (h : VIn ⟨kd, ar, vl, df, QA, qn, qc⟩ cs W) => rSay24_any ⟨kd, ar, vl, df, QA, qn, qc⟩ cs W h.req hn hc)
  have b0 : (pc == 0) = true := by simp [hpc]
  have k1 := stepS_size pc
  have k2 := itoaS_size h1
  have k3 := itoaS_size h2
  have k4 := callS_size hc
  have k5 := hv.req.len
  simp only at k5
  unfold reqV at HC
  simp only at HC
  generalize hP : VIn ⟨kd, ar, vl, df, QA, qn, qc⟩ cs = P at *
  have HBL : RowKit.Hid (∀ (w w' : World), P w → Below w.heap.size w w' → P w') := Lib.hid (by rw [← hP]; exact fun w w' h hb => VIn.below h hb)
  generalize taskS ⟨pc, sq, ⟨kd, ar, vl, df, QA, qn, qc⟩, sl, rd, r0, r1, r2, r3, r4, r5, r6, r7, r8, r9, r10, r11, r12, r13, r14, r15, r16, r17, r18, r19, r20, r21, r22, r23, r24⟩ cs = T at *
  generalize stepS pc = p at *
  generalize itoaS sq = z1 at *
  generalize itoaS rd = z2 at *
  generalize callS ⟨kd, ar, vl, df, QA, qn, qc⟩ cs = cc at *
  have d0 : ¬ 9223372036854775807 < p.size + 1 := by omega
  have d1 : ¬ 9223372036854775807 < p.size + 1 + z1.size := by omega
  have d2 : ¬ 9223372036854775807 < p.size + 1 + z1.size + 1 := by omega
  have d3 : ¬ 9223372036854775807 < p.size + 1 + z1.size + 1 + cc.size := by omega
  have d4 : ¬ 9223372036854775807 < p.size + 1 + z1.size + 1 + cc.size + 7 := by omega
  have d5 : ¬ 9223372036854775807 < p.size + 1 + z1.size + 1 + cc.size + 7 + z2.size := by omega
  clear hP hpc h1 h2 hn hc hv k1 k2 k3 k4 k5
  go_enter Tryz.func10, Tryz.ntmps10
  go_upto_region 1 with (fail)
  generalize w.alloc (.cells #[.int .i64 pc, .int .i64 sq, .int .i64 kd, .int .i64 ar, .int .i64 vl, .bool df, .slice QA qn qc, .bool sl, .int .i64 rd, r0, r1, r2, r3, r4, r5, r6, r7, r8, r9, r10, r11, r12, r13, r14, r15, r16, r17, r18, r19, r20, r21, r22, r23, r24] 38) = W0 at *
  have hwl0 := HX.out.lt
  have HPW := HPP
  have HP0 : RowKit.Hid (P W0.drew) := Lib.hid (HBL.out _ _ HPW.out (Below.drewN' (Below.refl _ _) 1))
  have hwl := hwl0
  have x0 := HX.out.cell (i := 0) rfl
  have x1 := HX.out.cell (i := 1) rfl
  have x2 := HX.out.cell (i := 2) rfl
  have x3 := HX.out.cell (i := 3) rfl
  have x4 := HX.out.cell (i := 4) rfl
  have x5 := HX.out.cell (i := 5) rfl
  have x6 := HX.out.cell (i := 6) rfl
  have x7 := HX.out.cell (i := 7) rfl
  have x8 := HX.out.cell (i := 8) rfl
  go_region_held3 (fun w' => w'.cell? ⟨w.heap.size, 0, none⟩ = some (.int .i64 pc) ∧ w'.cell? ⟨w.heap.size, 1, none⟩ = some (.int .i64 sq)) (first | go_keep | (simp only [hk0]; go_keep)) (first
    | (go_at_call 36; (with_reducible refine (HS.out W0.drew HP0.out).mono ?_); rintro er v1 ⟨rfl, hb1⟩; have hB1 : Below W0.heap.size W0 v1 := ⟨hb1.os, hb1.tape, hb1.output, hb1.size, hb1.block⟩; have hk0 := fun o => hB1.cell (p := ⟨w.heap.size, o, none⟩) hwl; have HP1 := Lib.hid (HBL.out _ _ HPW.out hB1))
    | (go_at_call 37; (with_reducible refine (HD1.out v1 HP1.out).mono ?_); rintro er v2 ⟨rfl, hb2⟩; have hB2 : Below W0.heap.size W0 v2 := hB1.trans (hb2.mono hB1.size); have hk0 := fun o => hB2.cell (p := ⟨w.heap.size, o, none⟩) hwl; have HP2 := Lib.hid (HBL.out _ _ HPW.out hB2)))
  have HB2 := Lib.hid (HB0.out.trans (hB2.mono HB0.out.size))
  have HX2 := Lib.hid (HX.out.below hB2 hwl)
  clear hk0 x0 x1 x2 x3 x4 x5 x6 x7 x8
  have x0 := HX2.out.cell (i := 0) rfl
  have x1 := HX2.out.cell (i := 1) rfl
  have x2 := HX2.out.cell (i := 2) rfl
  have x3 := HX2.out.cell (i := 3) rfl
  have x4 := HX2.out.cell (i := 4) rfl
  have x5 := HX2.out.cell (i := 5) rfl
  have x6 := HX2.out.cell (i := 6) rfl
  have x7 := HX2.out.cell (i := 7) rfl
  have x8 := HX2.out.cell (i := 8) rfl
  go_wp2_with fail
  go_ret
  exact ⟨by rw [HVAL.out]; rfl, HB2.out⟩

set_option maxHeartbeats 16000000 in
set_option maxRecDepth 100000 in
theorem rTask_t (pc sq kd ar vl : Int) (df : Bool) (QA : Option Addr) (qn qc : Nat) (rd : Int) (r0 r1 r2 r3 r4 r5 r6 r7 r8 r9 r10 r11 r12 r13 r14 r15 r16 r17 r18 r19 r20 r21 r22 r23 r24 : Value) (cs : List Cse) (w : World) (hpc : ¬ pc = 0) (h1 : In64 sq) (h2 : In64 rd) (hn : qn ≤ 1048570) (hc : CallIn ⟨kd, ar, vl, df, QA, qn, qc⟩ cs) (hv : VIn ⟨kd, ar, vl, df, QA, qn, qc⟩ cs w) :
    Calls Tryz.prog 10 #[.agg #[.int .i64 pc, .int .i64 sq, .int .i64 kd, .int .i64 ar, .int .i64 vl, .bool df, .slice QA qn qc, .bool true, .int .i64 rd, r0, r1, r2, r3, r4, r5, r6, r7, r8, r9, r10, r11, r12, r13, r14, r15, r16, r17, r18, r19, r20, r21, r22, r23, r24]] w fun e w' => e = .returned (.string (taskS ⟨pc, sq, ⟨kd, ar, vl, df, QA, qn, qc⟩, true, rd, r0, r1, r2, r3, r4, r5, r6, r7, r8, r9, r10, r11, r12, r13, r14, r15, r16, r17, r18, r19, r20, r21, r22, r23, r24⟩ cs)) ∧ Below w.heap.size w w' := by
  have HX : RowKit.Hid (Blk (w.alloc (.cells #[.int .i64 pc, .int .i64 sq, .int .i64 kd, .int .i64 ar, .int .i64 vl, .bool df, .slice QA qn qc, .bool true, .int .i64 rd, r0, r1, r2, r3, r4, r5, r6, r7, r8, r9, r10, r11, r12, r13, r14, r15, r16, r17, r18, r19, r20, r21, r22, r23, r24] 38)) w.heap.size 38 [.int .i64 pc, .int .i64 sq, .int .i64 kd, .int .i64 ar, .int .i64 vl, .bool df, .slice QA qn qc, .bool true, .int .i64 rd, r0, r1, r2, r3, r4, r5, r6, r7, r8, r9, r10, r11, r12, r13, r14, r15, r16, r17, r18, r19, r20, r21, r22, r23, r24]) := Lib.hid (Blk.new w _ _)
  have HB0 := Lib.hid ((Below.refl w.heap.size w).alloc (Nat.le_refl _) (.cells #[.int .i64 pc, .int .i64 sq, .int .i64 kd, .int .i64 ar, .int .i64 vl, .bool df, .slice QA qn qc, .bool true, .int .i64 rd, r0, r1, r2, r3, r4, r5, r6, r7, r8, r9, r10, r11, r12, r13, r14, r15, r16, r17, r18, r19, r20, r21, r22, r23, r24] 38))
  have HVAL : RowKit.Hid (taskS ⟨pc, sq, ⟨kd, ar, vl, df, QA, qn, qc⟩, true, rd, r0, r1, r2, r3, r4, r5, r6, r7, r8, r9, r10, r11, r12, r13, r14, r15, r16, r17, r18, r19, r20, r21, r22, r23, r24⟩ cs = stepS pc ++ ⟨#[32]⟩ ++ itoaS sq ++ ⟨#[32]⟩ ++ callS ⟨kd, ar, vl, df, QA, qn, qc⟩ cs ++ ⟨#[32, 115, 108, 111, 119]⟩ ++ ⟨#[32, 114, 111, 117, 110, 100, 32]⟩ ++ itoaS rd) := Lib.hid (by unfold taskS; simp [hpc])
  have HPP := Lib.hid (hv.below HB0.out)
  have HS := Lib.hid (fun W (_ : VIn ⟨kd, ar, vl, df, QA, qn, qc⟩ cs W) => rstepS_any pc W)
  have HD1 := Lib.hid (fun W (h : VIn ⟨kd, ar, vl, df, QA, qn, qc⟩ cs W) => rdec_any sq W h1)
  have HD2 := Lib.hid (fun W (h : VIn ⟨kd, ar, vl, df, QA, qn, qc⟩ cs W) => rdec_any rd W h2)
  have HC := Lib.hid (fun W (h : VIn ⟨kd, ar, vl, df, QA, qn, qc⟩ cs W) => rSay24_any ⟨kd, ar, vl, df, QA, qn, qc⟩ cs W h.req hn hc)
  have b0 : (pc == 0) = false := by simp [hpc]
  have k1 := stepS_size pc
  have k2 := itoaS_size h1
  have k3 := itoaS_size h2
  have k4 := callS_size hc
  have k5 := hv.req.len
  simp only at k5
  unfold reqV at HC
  simp only at HC
  generalize hP : VIn ⟨kd, ar, vl, df, QA, qn, qc⟩ cs = P at *
  have HBL : RowKit.Hid (∀ (w w' : World), P w → Below w.heap.size w w' → P w') := Lib.hid (by rw [← hP]; exact fun w w' h hb => VIn.below h hb)
  generalize taskS ⟨pc, sq, ⟨kd, ar, vl, df, QA, qn, qc⟩, true, rd, r0, r1, r2, r3, r4, r5, r6, r7, r8, r9, r10, r11, r12, r13, r14, r15, r16, r17, r18, r19, r20, r21, r22, r23, r24⟩ cs = T at *
  generalize stepS pc = p at *
  generalize itoaS sq = z1 at *
  generalize itoaS rd = z2 at *
  generalize callS ⟨kd, ar, vl, df, QA, qn, qc⟩ cs = cc at *
  have d0 : ¬ 9223372036854775807 < p.size + 1 := by omega
  have d1 : ¬ 9223372036854775807 < p.size + 1 + z1.size := by omega
  have d2 : ¬ 9223372036854775807 < p.size + 1 + z1.size + 1 := by omega
  have d3 : ¬ 9223372036854775807 < p.size + 1 + z1.size + 1 + cc.size := by omega
  have d4 : ¬ 9223372036854775807 < p.size + 1 + z1.size + 1 + cc.size + 5 := by omega
  have d5 : ¬ 9223372036854775807 < p.size + 1 + z1.size + 1 + cc.size + 5 + 7 := by omega
  have d6 : ¬ 9223372036854775807 < p.size + 1 + z1.size + 1 + cc.size + 5 + 7 + z2.size := by omega
  clear hP hpc h1 h2 hn hc hv k1 k2 k3 k4 k5
  go_enter Tryz.func10, Tryz.ntmps10
  go_upto_region 1 with (fail)
  generalize w.alloc (.cells #[.int .i64 pc, .int .i64 sq, .int .i64 kd, .int .i64 ar, .int .i64 vl, .bool df, .slice QA qn qc, .bool true, .int .i64 rd, r0, r1, r2, r3, r4, r5, r6, r7, r8, r9, r10, r11, r12, r13, r14, r15, r16, r17, r18, r19, r20, r21, r22, r23, r24] 38) = W0 at *
  have hwl0 := HX.out.lt
  have HPW := HPP
  have HP0 : RowKit.Hid (P W0.drew) := Lib.hid (HBL.out _ _ HPW.out (Below.drewN' (Below.refl _ _) 1))
  have hwl := hwl0
  have x0 := HX.out.cell (i := 0) rfl
  have x1 := HX.out.cell (i := 1) rfl
  have x2 := HX.out.cell (i := 2) rfl
  have x3 := HX.out.cell (i := 3) rfl
  have x4 := HX.out.cell (i := 4) rfl
  have x5 := HX.out.cell (i := 5) rfl
  have x6 := HX.out.cell (i := 6) rfl
  have x7 := HX.out.cell (i := 7) rfl
  have x8 := HX.out.cell (i := 8) rfl
  go_region_held3 (fun w' => w'.cell? ⟨w.heap.size, 0, none⟩ = some (.int .i64 pc) ∧ w'.cell? ⟨w.heap.size, 1, none⟩ = some (.int .i64 sq)) (first | go_keep | (simp only [hk0]; go_keep)) (first
    | (go_at_call 36; (with_reducible refine (HS.out W0.drew HP0.out).mono ?_); rintro er v1 ⟨rfl, hb1⟩; have hB1 : Below W0.heap.size W0 v1 := ⟨hb1.os, hb1.tape, hb1.output, hb1.size, hb1.block⟩; have hk0 := fun o => hB1.cell (p := ⟨w.heap.size, o, none⟩) hwl; have HP1 := Lib.hid (HBL.out _ _ HPW.out hB1))
    | (go_at_call 37; (with_reducible refine (HD1.out v1 HP1.out).mono ?_); rintro er v2 ⟨rfl, hb2⟩; have hB2 : Below W0.heap.size W0 v2 := hB1.trans (hb2.mono hB1.size); have hk0 := fun o => hB2.cell (p := ⟨w.heap.size, o, none⟩) hwl; have HP2 := Lib.hid (HBL.out _ _ HPW.out hB2)))
  have HB2 := Lib.hid (HB0.out.trans (hB2.mono HB0.out.size))
  have HX2 := Lib.hid (HX.out.below hB2 hwl)
  clear hk0 x0 x1 x2 x3 x4 x5 x6 x7 x8
  have x0 := HX2.out.cell (i := 0) rfl
  have x1 := HX2.out.cell (i := 1) rfl
  have x2 := HX2.out.cell (i := 2) rfl
  have x3 := HX2.out.cell (i := 3) rfl
  have x4 := HX2.out.cell (i := 4) rfl
  have x5 := HX2.out.cell (i := 5) rfl
  have x6 := HX2.out.cell (i := 6) rfl
  have x7 := HX2.out.cell (i := 7) rfl
  have x8 := HX2.out.cell (i := 8) rfl
  go_upto_region 5 with (go_at_call 32; refine (HC.out _ HP2.out).mono ?_; rintro er W3 ⟨rfl, hb3⟩)
  have HB3 := Lib.hid (HB2.out.trans (hb3.mono HB2.out.size))
  have HP3 := Lib.hid (HBL.out _ _ HP2.out hb3)
  have x7 := (hb3.cell (p := ⟨w.heap.size, 7, none⟩) HX2.out.lt).trans x7
  have x8 := (hb3.cell (p := ⟨w.heap.size, 8, none⟩) HX2.out.lt).trans x8
  clear hb3
  go_wp2_with (go_at_call 37; refine (HD2.out _ HP3.out).mono ?_; rintro er W4 ⟨rfl, hb4⟩)
  go_ret
  exact ⟨by rw [HVAL.out]; rfl, HB3.out.trans (hb4.mono HB3.out.size)⟩

set_option maxHeartbeats 16000000 in
set_option maxRecDepth 100000 in
theorem rTask_f (pc sq kd ar vl : Int) (df : Bool) (QA : Option Addr) (qn qc : Nat) (rd : Int) (r0 r1 r2 r3 r4 r5 r6 r7 r8 r9 r10 r11 r12 r13 r14 r15 r16 r17 r18 r19 r20 r21 r22 r23 r24 : Value) (cs : List Cse) (w : World) (hpc : ¬ pc = 0) (h1 : In64 sq) (h2 : In64 rd) (hn : qn ≤ 1048570) (hc : CallIn ⟨kd, ar, vl, df, QA, qn, qc⟩ cs) (hv : VIn ⟨kd, ar, vl, df, QA, qn, qc⟩ cs w) :
    Calls Tryz.prog 10 #[.agg #[.int .i64 pc, .int .i64 sq, .int .i64 kd, .int .i64 ar, .int .i64 vl, .bool df, .slice QA qn qc, .bool false, .int .i64 rd, r0, r1, r2, r3, r4, r5, r6, r7, r8, r9, r10, r11, r12, r13, r14, r15, r16, r17, r18, r19, r20, r21, r22, r23, r24]] w fun e w' => e = .returned (.string (taskS ⟨pc, sq, ⟨kd, ar, vl, df, QA, qn, qc⟩, false, rd, r0, r1, r2, r3, r4, r5, r6, r7, r8, r9, r10, r11, r12, r13, r14, r15, r16, r17, r18, r19, r20, r21, r22, r23, r24⟩ cs)) ∧ Below w.heap.size w w' := by
  have HX : RowKit.Hid (Blk (w.alloc (.cells #[.int .i64 pc, .int .i64 sq, .int .i64 kd, .int .i64 ar, .int .i64 vl, .bool df, .slice QA qn qc, .bool false, .int .i64 rd, r0, r1, r2, r3, r4, r5, r6, r7, r8, r9, r10, r11, r12, r13, r14, r15, r16, r17, r18, r19, r20, r21, r22, r23, r24] 38)) w.heap.size 38 [.int .i64 pc, .int .i64 sq, .int .i64 kd, .int .i64 ar, .int .i64 vl, .bool df, .slice QA qn qc, .bool false, .int .i64 rd, r0, r1, r2, r3, r4, r5, r6, r7, r8, r9, r10, r11, r12, r13, r14, r15, r16, r17, r18, r19, r20, r21, r22, r23, r24]) := Lib.hid (Blk.new w _ _)
  have HB0 := Lib.hid ((Below.refl w.heap.size w).alloc (Nat.le_refl _) (.cells #[.int .i64 pc, .int .i64 sq, .int .i64 kd, .int .i64 ar, .int .i64 vl, .bool df, .slice QA qn qc, .bool false, .int .i64 rd, r0, r1, r2, r3, r4, r5, r6, r7, r8, r9, r10, r11, r12, r13, r14, r15, r16, r17, r18, r19, r20, r21, r22, r23, r24] 38))
  have HVAL : RowKit.Hid (taskS ⟨pc, sq, ⟨kd, ar, vl, df, QA, qn, qc⟩, false, rd, r0, r1, r2, r3, r4, r5, r6, r7, r8, r9, r10, r11, r12, r13, r14, r15, r16, r17, r18, r19, r20, r21, r22, r23, r24⟩ cs = stepS pc ++ ⟨#[32]⟩ ++ itoaS sq ++ ⟨#[32]⟩ ++ callS ⟨kd, ar, vl, df, QA, qn, qc⟩ cs ++ ⟨#[32, 114, 111, 117, 110, 100, 32]⟩ ++ itoaS rd) := Lib.hid (by unfold taskS; simp [hpc])
  have HPP := Lib.hid (hv.below HB0.out)
  have HS := Lib.hid (fun W (_ : VIn ⟨kd, ar, vl, df, QA, qn, qc⟩ cs W) => rstepS_any pc W)
  have HD1 := Lib.hid (fun W (h : VIn ⟨kd, ar, vl, df, QA, qn, qc⟩ cs W) => rdec_any sq W h1)
  have HD2 := Lib.hid (fun W (h : VIn ⟨kd, ar, vl, df, QA, qn, qc⟩ cs W) => rdec_any rd W h2)
  have HC := Lib.hid (fun W (h : VIn ⟨kd, ar, vl, df, QA, qn, qc⟩ cs W) => rSay24_any ⟨kd, ar, vl, df, QA, qn, qc⟩ cs W h.req hn hc)
  have b0 : (pc == 0) = false := by simp [hpc]
  have k1 := stepS_size pc
  have k2 := itoaS_size h1
  have k3 := itoaS_size h2
  have k4 := callS_size hc
  have k5 := hv.req.len
  simp only at k5
  unfold reqV at HC
  simp only at HC
  generalize hP : VIn ⟨kd, ar, vl, df, QA, qn, qc⟩ cs = P at *
  have HBL : RowKit.Hid (∀ (w w' : World), P w → Below w.heap.size w w' → P w') := Lib.hid (by rw [← hP]; exact fun w w' h hb => VIn.below h hb)
  generalize taskS ⟨pc, sq, ⟨kd, ar, vl, df, QA, qn, qc⟩, false, rd, r0, r1, r2, r3, r4, r5, r6, r7, r8, r9, r10, r11, r12, r13, r14, r15, r16, r17, r18, r19, r20, r21, r22, r23, r24⟩ cs = T at *
  generalize stepS pc = p at *
  generalize itoaS sq = z1 at *
  generalize itoaS rd = z2 at *
  generalize callS ⟨kd, ar, vl, df, QA, qn, qc⟩ cs = cc at *
  have d0 : ¬ 9223372036854775807 < p.size + 1 := by omega
  have d1 : ¬ 9223372036854775807 < p.size + 1 + z1.size := by omega
  have d2 : ¬ 9223372036854775807 < p.size + 1 + z1.size + 1 := by omega
  have d3 : ¬ 9223372036854775807 < p.size + 1 + z1.size + 1 + cc.size := by omega
  have d4 : ¬ 9223372036854775807 < p.size + 1 + z1.size + 1 + cc.size + 7 := by omega
  have d5 : ¬ 9223372036854775807 < p.size + 1 + z1.size + 1 + cc.size + 7 + z2.size := by omega
  clear hP hpc h1 h2 hn hc hv k1 k2 k3 k4 k5
  go_enter Tryz.func10, Tryz.ntmps10
  go_upto_region 1 with (fail)
  generalize w.alloc (.cells #[.int .i64 pc, .int .i64 sq, .int .i64 kd, .int .i64 ar, .int .i64 vl, .bool df, .slice QA qn qc, .bool false, .int .i64 rd, r0, r1, r2, r3, r4, r5, r6, r7, r8, r9, r10, r11, r12, r13, r14, r15, r16, r17, r18, r19, r20, r21, r22, r23, r24] 38) = W0 at *
  have hwl0 := HX.out.lt
  have HPW := HPP
  have HP0 : RowKit.Hid (P W0.drew) := Lib.hid (HBL.out _ _ HPW.out (Below.drewN' (Below.refl _ _) 1))
  have hwl := hwl0
  have x0 := HX.out.cell (i := 0) rfl
  have x1 := HX.out.cell (i := 1) rfl
  have x2 := HX.out.cell (i := 2) rfl
  have x3 := HX.out.cell (i := 3) rfl
  have x4 := HX.out.cell (i := 4) rfl
  have x5 := HX.out.cell (i := 5) rfl
  have x6 := HX.out.cell (i := 6) rfl
  have x7 := HX.out.cell (i := 7) rfl
  have x8 := HX.out.cell (i := 8) rfl
  go_region_held3 (fun w' => w'.cell? ⟨w.heap.size, 0, none⟩ = some (.int .i64 pc) ∧ w'.cell? ⟨w.heap.size, 1, none⟩ = some (.int .i64 sq)) (first | go_keep | (simp only [hk0]; go_keep)) (first
    | (go_at_call 36; (with_reducible refine (HS.out W0.drew HP0.out).mono ?_); rintro er v1 ⟨rfl, hb1⟩; have hB1 : Below W0.heap.size W0 v1 := ⟨hb1.os, hb1.tape, hb1.output, hb1.size, hb1.block⟩; have hk0 := fun o => hB1.cell (p := ⟨w.heap.size, o, none⟩) hwl; have HP1 := Lib.hid (HBL.out _ _ HPW.out hB1))
    | (go_at_call 37; (with_reducible refine (HD1.out v1 HP1.out).mono ?_); rintro er v2 ⟨rfl, hb2⟩; have hB2 : Below W0.heap.size W0 v2 := hB1.trans (hb2.mono hB1.size); have hk0 := fun o => hB2.cell (p := ⟨w.heap.size, o, none⟩) hwl; have HP2 := Lib.hid (HBL.out _ _ HPW.out hB2)))
  have HB2 := Lib.hid (HB0.out.trans (hB2.mono HB0.out.size))
  have HX2 := Lib.hid (HX.out.below hB2 hwl)
  clear hk0 x0 x1 x2 x3 x4 x5 x6 x7 x8
  have x0 := HX2.out.cell (i := 0) rfl
  have x1 := HX2.out.cell (i := 1) rfl
  have x2 := HX2.out.cell (i := 2) rfl
  have x3 := HX2.out.cell (i := 3) rfl
  have x4 := HX2.out.cell (i := 4) rfl
  have x5 := HX2.out.cell (i := 5) rfl
  have x6 := HX2.out.cell (i := 6) rfl
  have x7 := HX2.out.cell (i := 7) rfl
  have x8 := HX2.out.cell (i := 8) rfl
  go_upto_region 5 with (go_at_call 32; refine (HC.out _ HP2.out).mono ?_; rintro er W3 ⟨rfl, hb3⟩)
  have HB3 := Lib.hid (HB2.out.trans (hb3.mono HB2.out.size))
  have HP3 := Lib.hid (HBL.out _ _ HP2.out hb3)
  have x7 := (hb3.cell (p := ⟨w.heap.size, 7, none⟩) HX2.out.lt).trans x7
  have x8 := (hb3.cell (p := ⟨w.heap.size, 8, none⟩) HX2.out.lt).trans x8
  clear hb3
  go_wp2_with (go_at_call 37; refine (HD2.out _ HP3.out).mono ?_; rintro er W4 ⟨rfl, hb4⟩)
  go_ret
  exact ⟨by rw [HVAL.out]; rfl, HB3.out.trans (hb4.mono HB3.out.size)⟩

theorem rTask_any (k : Tsk) (cs : List Cse) (w : World) (h1 : In64 k.sq) (h2 : In64 k.rd) (hn : k.q.n ≤ 1048570) (hc : CallIn k.q cs) (hv : VIn k.q cs w) :
    Calls Tryz.prog 10 #[taskV k] w fun e w' => e = .returned (.string (taskS k cs)) ∧ Below w.heap.size w w' := by
  obtain ⟨pc, sq, ⟨kd, ar, vl, df, QA, qn, qc⟩, sl, rd, r0, r1, r2, r3, r4, r5, r6, r7, r8, r9, r10, r11, r12, r13, r14, r15, r16, r17, r18, r19, r20, r21, r22, r23, r24⟩ := k
  by_cases hpc : pc = 0
  · exact rTask_0 pc sq kd ar vl df QA qn qc sl rd r0 r1 r2 r3 r4 r5 r6 r7 r8 r9 r10 r11 r12 r13 r14 r15 r16 r17 r18 r19 r20 r21 r22 r23 r24 cs w hpc h1 h2 hn hc hv
  · cases sl with
    | true => exact rTask_t pc sq kd ar vl df QA qn qc rd r0 r1 r2 r3 r4 r5 r6 r7 r8 r9 r10 r11 r12 r13 r14 r15 r16 r17 r18 r19 r20 r21 r22 r23 r24 cs w hpc h1 h2 hn hc hv
    | false => exact rTask_f pc sq kd ar vl df QA qn qc rd r0 r1 r2 r3 r4 r5 r6 r7 r8 r9 r10 r11 r12 r13 r14 r15 r16 r17 r18 r19 r20 r21 r22 r23 r24 cs w hpc h1 h2 hn hc hv

end Go.Proofs.YtalkllfgedacoaaGreatDoor
