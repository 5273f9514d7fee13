/- A note as a line: the program's and the document's, walked. -/
import Derived.Test.YtalkllfgedacoaaGreatDoorO6
import Derived.Test.YtalkllfgedacoaaGreatDoorO16
import Derived.Test.YtalkllfgedacoaaGreatDoorO18
namespace Go.Proofs.YtalkllfgedacoaaGreatDoor
open Go.RowKit Go.Sort

set_option maxHeartbeats 16000000 in
set_option maxRecDepth 100000 in
theorem vNote_1 (kn th sq tm kd ar vl : Int) (df : Bool) (QA : Option Addr) (qn qc : Nat) (rs rc re rv : Int) (cs : List Cse) (w : World) (hk : kn = 1) (h1 : In64 tm) (h2 : In64 th) (h3 : In64 sq) (h4 : In64 rs) (h5 : In64 rv) (h6 : In64 rc) (hn : qn ≤ 1048570) (hc : CallIn ⟨kd, ar, vl, df, QA, qn, qc⟩ cs) (hv : VIn ⟨kd, ar, vl, df, QA, qn, qc⟩ cs w) :
    Calls Tryz.prog 11 #[.agg #[.int .i64 kn, .int .i64 th, .int .i64 sq, .int .i64 tm, .int .i64 kd, .int .i64 ar, .int .i64 vl, .bool df, .slice QA qn qc, .int .i64 rs, .int .i64 rc, .int .i64 re, .int .i64 rv]] w fun e w' => e = .returned (.string (noteS ⟨kn, th, sq, tm, ⟨kd, ar, vl, df, QA, qn, qc⟩, ⟨rs, rc, re, rv⟩⟩ cs)) ∧ Below w.heap.size w w' := by
  have HX : RowKit.Hid (Blk (w.alloc (.cells #[.int .i64 kn, .int .i64 th, .int .i64 sq, .int .i64 tm, .int .i64 kd, .int .i64 ar, .int .i64 vl, .bool df, .slice QA qn qc, .int .i64 rs, .int .i64 rc, .int .i64 re, .int .i64 rv] 40)) w.heap.size 40 [.int .i64 kn, .int .i64 th, .int .i64 sq, .int .i64 tm, .int .i64 kd, .int .i64 ar, .int .i64 vl, .bool df, .slice QA qn qc, .int .i64 rs, .int .i64 rc, .int .i64 re, .int .i64 rv]) := Lib.hid (Blk.new w _ _)
  have HB0 := Lib.hid ((Below.refl w.heap.size w).alloc (Nat.le_refl _) (.cells #[.int .i64 kn, .int .i64 th, .int .i64 sq, .int .i64 tm, .int .i64 kd, .int .i64 ar, .int .i64 vl, .bool df, .slice QA qn qc, .int .i64 rs, .int .i64 rc, .int .i64 re, .int .i64 rv] 40))
  have HVAL : RowKit.Hid (noteS ⟨kn, th, sq, tm, ⟨kd, ar, vl, df, QA, qn, qc⟩, ⟨rs, rc, re, rv⟩⟩ cs = itoaS tm ++ ⟨#[32, 116, 104, 114, 101, 97, 100, 32]⟩ ++ itoaS th ++ ⟨#[32, 99, 97, 108, 108, 115, 32]⟩ ++ itoaS sq ++ ⟨#[32]⟩ ++ callS ⟨kd, ar, vl, df, QA, qn, qc⟩ cs) := Lib.hid (by unfold noteS; simp [hk])
  have HPW := Lib.hid (hv.below HB0.out)
  have HD0 := Lib.hid (fun W (h : VIn ⟨kd, ar, vl, df, QA, qn, qc⟩ cs W) => dec_any tm W h1 h.tab)
  have HD1 := Lib.hid (fun W (h : VIn ⟨kd, ar, vl, df, QA, qn, qc⟩ cs W) => dec_any th W h2 h.tab)
  have HD2 := Lib.hid (fun W (h : VIn ⟨kd, ar, vl, df, QA, qn, qc⟩ cs W) => dec_any sq W h3 h.tab)
  have HR := Lib.hid (fun W (h : VIn ⟨kd, ar, vl, df, QA, qn, qc⟩ cs W) => vRes_any ⟨rs, rc, re, rv⟩ W h4 h5 h6 h.tab)
  have HC := Lib.hid (fun W (h : VIn ⟨kd, ar, vl, df, QA, qn, qc⟩ cs W) => Say24_any ⟨kd, ar, vl, df, QA, qn, qc⟩ cs W h.req hn hc h.err h.tab h.ml)
  have b1 : (kn == 1) = true := by simp [hk]
  have k0 := itoaS_size h1
  have k1 := itoaS_size h2
  have k2 := itoaS_size h3
  have k3 := resS_size (r := ⟨rs, rc, re, rv⟩) h4 h5 h6
  have k4 := callS_size hc
  have k5 := hv.req.len
  simp only at k5
  unfold reqV at HC
  unfold rsV at HR
  simp only at HC HR
  generalize hP : VIn ⟨kd, ar, vl, df, QA, qn, qc⟩ cs = P at *
  have HBL : RowKit.Hid (∀ (w w' : World), P w → Below w.heap.size w w' → P w') := Lib.hid (by rw [← hP]; exact fun w w' h hb => VIn.below h hb)
  generalize noteS ⟨kn, th, sq, tm, ⟨kd, ar, vl, df, QA, qn, qc⟩, ⟨rs, rc, re, rv⟩⟩ cs = T at *
  generalize itoaS tm = z0 at *
  generalize itoaS th = z1 at *
  generalize itoaS sq = z2 at *
  generalize resS ⟨rs, rc, re, rv⟩ = rr at *
  generalize callS ⟨kd, ar, vl, df, QA, qn, qc⟩ cs = cc at *
  have d0 : ¬ 9223372036854775807 < z0.size + 8 := by omega
  have d1 : ¬ 9223372036854775807 < z0.size + 8 + z1.size := by omega
  have d2 : ¬ 9223372036854775807 < z0.size + 8 + z1.size + 1 := by omega
  have d3 : ¬ 9223372036854775807 < z0.size + 8 + z1.size + 1 + 6 := by omega
  have d4 : ¬ 9223372036854775807 < z0.size + 8 + z1.size + 1 + 6 + z2.size := by omega
  have d5 : ¬ 9223372036854775807 < z0.size + 8 + z1.size + 1 + 6 + z2.size + 1 := by omega
  have d6 : ¬ 9223372036854775807 < z0.size + 8 + z1.size + 1 + 6 + z2.size + 1 + cc.size := by omega
  clear hP hk h1 h2 h3 h4 h5 h6 hn hc hv k0 k1 k2 k3 k4 k5
  go_enter Tryz.func11, Tryz.ntmps11
  go_upto_region 1 with (fail)
  generalize w.alloc (.cells #[.int .i64 kn, .int .i64 th, .int .i64 sq, .int .i64 tm, .int .i64 kd, .int .i64 ar, .int .i64 vl, .bool df, .slice QA qn qc, .int .i64 rs, .int .i64 rc, .int .i64 re, .int .i64 rv] 40) = W0 at *
  have hwl := HX.out.lt
  have HP0 : RowKit.Hid (P W0.drew) := Lib.hid (HBL.out _ _ HPW.out (Below.drewN' (Below.refl _ _) 1))
  have x0 := HX.out.cell (i := 0) rfl
  have x1 := HX.out.cell (i := 1) rfl
  have x2 := HX.out.cell (i := 2) rfl
  have x3 := HX.out.cell (i := 3) rfl
  have x4 := HX.out.cell (i := 4) rfl
  have x5 := HX.out.cell (i := 5) rfl
  have x6 := HX.out.cell (i := 6) rfl
  have x7 := HX.out.cell (i := 7) rfl
  have x8 := HX.out.cell (i := 8) rfl
  have x9 := HX.out.cell (i := 9) rfl
  have x10 := HX.out.cell (i := 10) rfl
  have x11 := HX.out.cell (i := 11) rfl
  have x12 := HX.out.cell (i := 12) rfl
  go_region_held3 (fun w' => w'.cell? ⟨w.heap.size, 1, none⟩ = some (.int .i64 th) ∧ w'.cell? ⟨w.heap.size, 3, none⟩ = some (.int .i64 tm)) (first | go_keep | (simp only [hk0]; go_keep)) (first
    | (go_at_call 35; (with_reducible refine (HD0.out W0.drew HP0.out).mono ?_); rintro er v1 ⟨rfl, hb1⟩; have hB1 : Below W0.heap.size W0 v1 := ⟨hb1.os, hb1.tape, hb1.output, hb1.size, hb1.block⟩; have hk0 := fun o => hB1.cell (p := ⟨w.heap.size, o, none⟩) hwl; have HP1 := Lib.hid (HBL.out _ _ HPW.out hB1))
    | (go_at_call 35; (with_reducible refine (HD1.out v1 HP1.out).mono ?_); rintro er v2 ⟨rfl, hb2⟩; have hB2 : Below W0.heap.size W0 v2 := hB1.trans (hb2.mono hB1.size); have hk0 := fun o => hB2.cell (p := ⟨w.heap.size, o, none⟩) hwl; have HP2 := Lib.hid (HBL.out _ _ HPW.out hB2)))
  have HB2 := Lib.hid (HB0.out.trans (hB2.mono HB0.out.size))
  have HX2 := Lib.hid (HX.out.below hB2 hwl)
  have HPV := HP2
  clear x0 x1 x2 x3 x4 x5 x6 x7 x8 x9 x10 x11 x12 hwl hb1 hb2 hB1 hB2 hk0 HP0 HP1 HP2 HPW HX HB0
  have x0 := HX2.out.cell (i := 0) rfl
  have x1 := HX2.out.cell (i := 1) rfl
  have x2 := HX2.out.cell (i := 2) rfl
  have x3 := HX2.out.cell (i := 3) rfl
  have x4 := HX2.out.cell (i := 4) rfl
  have x5 := HX2.out.cell (i := 5) rfl
  have x6 := HX2.out.cell (i := 6) rfl
  have x7 := HX2.out.cell (i := 7) rfl
  have x8 := HX2.out.cell (i := 8) rfl
  have x9 := HX2.out.cell (i := 9) rfl
  have x10 := HX2.out.cell (i := 10) rfl
  have x11 := HX2.out.cell (i := 11) rfl
  have x12 := HX2.out.cell (i := 12) rfl
  have HP0 : RowKit.Hid (P v2.drew) := Lib.hid (HBL.out _ _ HPV.out (Below.drewN' (Below.refl _ _) 1))
  have hwl := HX2.out.lt
  go_upto_region 4 with (fail)
  generalize v2 = W2 at *
  go_region_held3 (fun w' => w'.cell? ⟨w.heap.size, 2, none⟩ = some (.int .i64 sq) ∧ w'.cell? ⟨w.heap.size, 4, none⟩ = some (.int .i64 kd) ∧ w'.cell? ⟨w.heap.size, 5, none⟩ = some (.int .i64 ar) ∧ w'.cell? ⟨w.heap.size, 6, none⟩ = some (.int .i64 vl) ∧ w'.cell? ⟨w.heap.size, 7, none⟩ = some (.bool df) ∧ w'.cell? ⟨w.heap.size, 8, none⟩ = some (.slice QA qn qc)) (first | go_keep | (simp only [hk0]; go_keep)) (first
    | (go_at_call 35; (with_reducible refine (HD2.out W2.drew HP0.out).mono ?_); rintro er v1 ⟨rfl, hb1⟩; have hB1 : Below W2.heap.size W2 v1 := ⟨hb1.os, hb1.tape, hb1.output, hb1.size, hb1.block⟩; have hk0 := fun o => hB1.cell (p := ⟨w.heap.size, o, none⟩) hwl; have HP1 := Lib.hid (HBL.out _ _ HPV.out hB1))
    | (go_at_call 31; (with_reducible refine (HC.out v1 HP1.out).mono ?_); rintro er v2 ⟨rfl, hb2⟩; have hB2 : Below W2.heap.size W2 v2 := hB1.trans (hb2.mono hB1.size); have hk0 := fun o => hB2.cell (p := ⟨w.heap.size, o, none⟩) hwl; have HP2 := Lib.hid (HBL.out _ _ HPV.out hB2)))
  have HB3 := Lib.hid (HB2.out.trans (hB2.mono HB2.out.size))
  go_wp2_with fail
  go_ret
  exact ⟨by rw [HVAL.out, ← (show (⟨#[32]⟩ : ByteArray) ++ ⟨#[99, 97, 108, 108, 115, 32]⟩ = ⟨#[32, 99, 97, 108, 108, 115, 32]⟩ by decide)]; simp only [ByteArray.append_assoc]; rfl, HB3.out⟩

set_option maxHeartbeats 16000000 in
set_option maxRecDepth 100000 in
theorem vNote_2 (kn th sq tm kd ar vl : Int) (df : Bool) (QA : Option Addr) (qn qc : Nat) (rs rc re rv : Int) (cs : List Cse) (w : World) (hk : kn = 2) (h1 : In64 tm) (h2 : In64 th) (h3 : In64 sq) (h4 : In64 rs) (h5 : In64 rv) (h6 : In64 rc) (hn : qn ≤ 1048570) (hc : CallIn ⟨kd, ar, vl, df, QA, qn, qc⟩ cs) (hv : VIn ⟨kd, ar, vl, df, QA, qn, qc⟩ cs w) :
    Calls Tryz.prog 11 #[.agg #[.int .i64 kn, .int .i64 th, .int .i64 sq, .int .i64 tm, .int .i64 kd, .int .i64 ar, .int .i64 vl, .bool df, .slice QA qn qc, .int .i64 rs, .int .i64 rc, .int .i64 re, .int .i64 rv]] w fun e w' => e = .returned (.string (noteS ⟨kn, th, sq, tm, ⟨kd, ar, vl, df, QA, qn, qc⟩, ⟨rs, rc, re, rv⟩⟩ cs)) ∧ Below w.heap.size w w' := by
  have HX : RowKit.Hid (Blk (w.alloc (.cells #[.int .i64 kn, .int .i64 th, .int .i64 sq, .int .i64 tm, .int .i64 kd, .int .i64 ar, .int .i64 vl, .bool df, .slice QA qn qc, .int .i64 rs, .int .i64 rc, .int .i64 re, .int .i64 rv] 40)) w.heap.size 40 [.int .i64 kn, .int .i64 th, .int .i64 sq, .int .i64 tm, .int .i64 kd, .int .i64 ar, .int .i64 vl, .bool df, .slice QA qn qc, .int .i64 rs, .int .i64 rc, .int .i64 re, .int .i64 rv]) := Lib.hid (Blk.new w _ _)
  have HB0 := Lib.hid ((Below.refl w.heap.size w).alloc (Nat.le_refl _) (.cells #[.int .i64 kn, .int .i64 th, .int .i64 sq, .int .i64 tm, .int .i64 kd, .int .i64 ar, .int .i64 vl, .bool df, .slice QA qn qc, .int .i64 rs, .int .i64 rc, .int .i64 re, .int .i64 rv] 40))
  have HVAL : RowKit.Hid (noteS ⟨kn, th, sq, tm, ⟨kd, ar, vl, df, QA, qn, qc⟩, ⟨rs, rc, re, rv⟩⟩ cs = itoaS tm ++ ⟨#[32, 116, 104, 114, 101, 97, 100, 32]⟩ ++ itoaS th ++ ⟨#[32, 119, 97, 105, 116, 115, 32]⟩ ++ itoaS sq) := Lib.hid (by unfold noteS; simp [hk])
  have HPW := Lib.hid (hv.below HB0.out)
  have HD0 := Lib.hid (fun W (h : VIn ⟨kd, ar, vl, df, QA, qn, qc⟩ cs W) => dec_any tm W h1 h.tab)
  have HD1 := Lib.hid (fun W (h : VIn ⟨kd, ar, vl, df, QA, qn, qc⟩ cs W) => dec_any th W h2 h.tab)
  have HD2 := Lib.hid (fun W (h : VIn ⟨kd, ar, vl, df, QA, qn, qc⟩ cs W) => dec_any sq W h3 h.tab)
  have HR := Lib.hid (fun W (h : VIn ⟨kd, ar, vl, df, QA, qn, qc⟩ cs W) => vRes_any ⟨rs, rc, re, rv⟩ W h4 h5 h6 h.tab)
  have HC := Lib.hid (fun W (h : VIn ⟨kd, ar, vl, df, QA, qn, qc⟩ cs W) => Say24_any ⟨kd, ar, vl, df, QA, qn, qc⟩ cs W h.req hn hc h.err h.tab h.ml)
  have b1 : (kn == 1) = false := by simp [hk]
  have b2 : (kn == 2) = true := by simp [hk]
  have k0 := itoaS_size h1
  have k1 := itoaS_size h2
  have k2 := itoaS_size h3
  have k3 := resS_size (r := ⟨rs, rc, re, rv⟩) h4 h5 h6
  have k4 := callS_size hc
  have k5 := hv.req.len
  simp only at k5
  unfold reqV at HC
  unfold rsV at HR
  simp only at HC HR
  generalize hP : VIn ⟨kd, ar, vl, df, QA, qn, qc⟩ cs = P at *
  have HBL : RowKit.Hid (∀ (w w' : World), P w → Below w.heap.size w w' → P w') := Lib.hid (by rw [← hP]; exact fun w w' h hb => VIn.below h hb)
  generalize noteS ⟨kn, th, sq, tm, ⟨kd, ar, vl, df, QA, qn, qc⟩, ⟨rs, rc, re, rv⟩⟩ cs = T at *
  generalize itoaS tm = z0 at *
  generalize itoaS th = z1 at *
  generalize itoaS sq = z2 at *
  generalize resS ⟨rs, rc, re, rv⟩ = rr at *
  generalize callS ⟨kd, ar, vl, df, QA, qn, qc⟩ cs = cc at *
  have d0 : ¬ 9223372036854775807 < z0.size + 8 := by omega
  have d1 : ¬ 9223372036854775807 < z0.size + 8 + z1.size := by omega
  have d2 : ¬ 9223372036854775807 < z0.size + 8 + z1.size + 1 := by omega
  have d3 : ¬ 9223372036854775807 < z0.size + 8 + z1.size + 1 + 6 := by omega
  have d4 : ¬ 9223372036854775807 < z0.size + 8 + z1.size + 1 + 6 + z2.size := by omega
  clear hP hk h1 h2 h3 h4 h5 h6 hn hc hv k0 k1 k2 k3 k4 k5
  go_enter Tryz.func11, Tryz.ntmps11
  go_upto_region 1 with (fail)
  generalize w.alloc (.cells #[.int .i64 kn, .int .i64 th, .int .i64 sq, .int .i64 tm, .int .i64 kd, .int .i64 ar, .int .i64 vl, .bool df, .slice QA qn qc, .int .i64 rs, .int .i64 rc, .int .i64 re, .int .i64 rv] 40) = W0 at *
  have hwl := HX.out.lt
  have HP0 : RowKit.Hid (P W0.drew) := Lib.hid (HBL.out _ _ HPW.out (Below.drewN' (Below.refl _ _) 1))
  have x0 := HX.out.cell (i := 0) rfl
  have x1 := HX.out.cell (i := 1) rfl
  have x2 := HX.out.cell (i := 2) rfl
  have x3 := HX.out.cell (i := 3) rfl
  have x4 := HX.out.cell (i := 4) rfl
  have x5 := HX.out.cell (i := 5) rfl
  have x6 := HX.out.cell (i := 6) rfl
  have x7 := HX.out.cell (i := 7) rfl
  have x8 := HX.out.cell (i := 8) rfl
  have x9 := HX.out.cell (i := 9) rfl
  have x10 := HX.out.cell (i := 10) rfl
  have x11 := HX.out.cell (i := 11) rfl
  have x12 := HX.out.cell (i := 12) rfl
  go_region_held3 (fun w' => w'.cell? ⟨w.heap.size, 1, none⟩ = some (.int .i64 th) ∧ w'.cell? ⟨w.heap.size, 3, none⟩ = some (.int .i64 tm)) (first | go_keep | (simp only [hk0]; go_keep)) (first
    | (go_at_call 35; (with_reducible refine (HD0.out W0.drew HP0.out).mono ?_); rintro er v1 ⟨rfl, hb1⟩; have hB1 : Below W0.heap.size W0 v1 := ⟨hb1.os, hb1.tape, hb1.output, hb1.size, hb1.block⟩; have hk0 := fun o => hB1.cell (p := ⟨w.heap.size, o, none⟩) hwl; have HP1 := Lib.hid (HBL.out _ _ HPW.out hB1))
    | (go_at_call 35; (with_reducible refine (HD1.out v1 HP1.out).mono ?_); rintro er v2 ⟨rfl, hb2⟩; have hB2 : Below W0.heap.size W0 v2 := hB1.trans (hb2.mono hB1.size); have hk0 := fun o => hB2.cell (p := ⟨w.heap.size, o, none⟩) hwl; have HP2 := Lib.hid (HBL.out _ _ HPW.out hB2)))
  have HB2 := Lib.hid (HB0.out.trans (hB2.mono HB0.out.size))
  have HX2 := Lib.hid (HX.out.below hB2 hwl)
  have HPV := HP2
  clear x0 x1 x2 x3 x4 x5 x6 x7 x8 x9 x10 x11 x12 hwl hb1 hb2 hB1 hB2 hk0 HP0 HP1 HP2 HPW HX HB0
  have x0 := HX2.out.cell (i := 0) rfl
  have x1 := HX2.out.cell (i := 1) rfl
  have x2 := HX2.out.cell (i := 2) rfl
  have x3 := HX2.out.cell (i := 3) rfl
  have x4 := HX2.out.cell (i := 4) rfl
  have x5 := HX2.out.cell (i := 5) rfl
  have x6 := HX2.out.cell (i := 6) rfl
  have x7 := HX2.out.cell (i := 7) rfl
  have x8 := HX2.out.cell (i := 8) rfl
  have x9 := HX2.out.cell (i := 9) rfl
  have x10 := HX2.out.cell (i := 10) rfl
  have x11 := HX2.out.cell (i := 11) rfl
  have x12 := HX2.out.cell (i := 12) rfl
  go_wp2_with (go_at_call 35; refine (HD2.out _ HPV.out).mono ?_; rintro er W3 ⟨rfl, hb3⟩)
  go_ret
  exact ⟨by rw [HVAL.out, ← (show (⟨#[32]⟩ : ByteArray) ++ ⟨#[119, 97, 105, 116, 115, 32]⟩ = ⟨#[32, 119, 97, 105, 116, 115, 32]⟩ by decide)]; simp only [ByteArray.append_assoc]; rfl, HB2.out.trans (hb3.mono HB2.out.size)⟩

set_option maxHeartbeats 16000000 in
set_option maxRecDepth 100000 in
theorem vNote_3 (kn th sq tm kd ar vl : Int) (df : Bool) (QA : Option Addr) (qn qc : Nat) (rs rc re rv : Int) (cs : List Cse) (w : World) (hk : kn = 3) (h1 : In64 tm) (h2 : In64 th) (h3 : In64 sq) (h4 : In64 rs) (h5 : In64 rv) (h6 : In64 rc) (hn : qn ≤ 1048570) (hc : CallIn ⟨kd, ar, vl, df, QA, qn, qc⟩ cs) (hv : VIn ⟨kd, ar, vl, df, QA, qn, qc⟩ cs w) :
    Calls Tryz.prog 11 #[.agg #[.int .i64 kn, .int .i64 th, .int .i64 sq, .int .i64 tm, .int .i64 kd, .int .i64 ar, .int .i64 vl, .bool df, .slice QA qn qc, .int .i64 rs, .int .i64 rc, .int .i64 re, .int .i64 rv]] w fun e w' => e = .returned (.string (noteS ⟨kn, th, sq, tm, ⟨kd, ar, vl, df, QA, qn, qc⟩, ⟨rs, rc, re, rv⟩⟩ cs)) ∧ Below w.heap.size w w' := by
  have HX : RowKit.Hid (Blk (w.alloc (.cells #[.int .i64 kn, .int .i64 th, .int .i64 sq, .int .i64 tm, .int .i64 kd, .int .i64 ar, .int .i64 vl, .bool df, .slice QA qn qc, .int .i64 rs, .int .i64 rc, .int .i64 re, .int .i64 rv] 40)) w.heap.size 40 [.int .i64 kn, .int .i64 th, .int .i64 sq, .int .i64 tm, .int .i64 kd, .int .i64 ar, .int .i64 vl, .bool df, .slice QA qn qc, .int .i64 rs, .int .i64 rc, .int .i64 re, .int .i64 rv]) := Lib.hid (Blk.new w _ _)
  have HB0 := Lib.hid ((Below.refl w.heap.size w).alloc (Nat.le_refl _) (.cells #[.int .i64 kn, .int .i64 th, .int .i64 sq, .int .i64 tm, .int .i64 kd, .int .i64 ar, .int .i64 vl, .bool df, .slice QA qn qc, .int .i64 rs, .int .i64 rc, .int .i64 re, .int .i64 rv] 40))
  have HVAL : RowKit.Hid (noteS ⟨kn, th, sq, tm, ⟨kd, ar, vl, df, QA, qn, qc⟩, ⟨rs, rc, re, rv⟩⟩ cs = itoaS tm ++ ⟨#[32, 116, 104, 114, 101, 97, 100, 32]⟩ ++ itoaS th ++ ⟨#[32, 114, 101, 116, 117, 114, 110, 115, 32]⟩ ++ resS ⟨rs, rc, re, rv⟩) := Lib.hid (by unfold noteS; simp [hk])
  have HPW := Lib.hid (hv.below HB0.out)
  have HD0 := Lib.hid (fun W (h : VIn ⟨kd, ar, vl, df, QA, qn, qc⟩ cs W) => dec_any tm W h1 h.tab)
  have HD1 := Lib.hid (fun W (h : VIn ⟨kd, ar, vl, df, QA, qn, qc⟩ cs W) => dec_any th W h2 h.tab)
  have HD2 := Lib.hid (fun W (h : VIn ⟨kd, ar, vl, df, QA, qn, qc⟩ cs W) => dec_any sq W h3 h.tab)
  have HR := Lib.hid (fun W (h : VIn ⟨kd, ar, vl, df, QA, qn, qc⟩ cs W) => vRes_any ⟨rs, rc, re, rv⟩ W h4 h5 h6 h.tab)
  have HC := Lib.hid (fun W (h : VIn ⟨kd, ar, vl, df, QA, qn, qc⟩ cs W) => Say24_any ⟨kd, ar, vl, df, QA, qn, qc⟩ cs W h.req hn hc h.err h.tab h.ml)
  have b1 : (kn == 1) = false := by simp [hk]
  have b2 : (kn == 2) = false := by simp [hk]
  have b3 : (kn == 3) = true := by simp [hk]
  have k0 := itoaS_size h1
  have k1 := itoaS_size h2
  have k2 := itoaS_size h3
  have k3 := resS_size (r := ⟨rs, rc, re, rv⟩) h4 h5 h6
  have k4 := callS_size hc
  have k5 := hv.req.len
  simp only at k5
  unfold reqV at HC
  unfold rsV at HR
  simp only at HC HR
  generalize hP : VIn ⟨kd, ar, vl, df, QA, qn, qc⟩ cs = P at *
  have HBL : RowKit.Hid (∀ (w w' : World), P w → Below w.heap.size w w' → P w') := Lib.hid (by rw [← hP]; exact fun w w' h hb => VIn.below h hb)
  generalize noteS ⟨kn, th, sq, tm, ⟨kd, ar, vl, df, QA, qn, qc⟩, ⟨rs, rc, re, rv⟩⟩ cs = T at *
  generalize itoaS tm = z0 at *
  generalize itoaS th = z1 at *
  generalize itoaS sq = z2 at *
  generalize resS ⟨rs, rc, re, rv⟩ = rr at *
  generalize callS ⟨kd, ar, vl, df, QA, qn, qc⟩ cs = cc at *
  have d0 : ¬ 9223372036854775807 < z0.size + 8 := by omega
  have d1 : ¬ 9223372036854775807 < z0.size + 8 + z1.size := by omega
  have d2 : ¬ 9223372036854775807 < z0.size + 8 + z1.size + 1 := by omega
  have d3 : ¬ 9223372036854775807 < z0.size + 8 + z1.size + 1 + 8 := by omega
  have d4 : ¬ 9223372036854775807 < z0.size + 8 + z1.size + 1 + 8 + rr.size := by omega
  clear hP hk h1 h2 h3 h4 h5 h6 hn hc hv k0 k1 k2 k3 k4 k5
  go_enter Tryz.func11, Tryz.ntmps11
  go_upto_region 1 with (fail)
  generalize w.alloc (.cells #[.int .i64 kn, .int .i64 th, .int .i64 sq, .int .i64 tm, .int .i64 kd, .int .i64 ar, .int .i64 vl, .bool df, .slice QA qn qc, .int .i64 rs, .int .i64 rc, .int .i64 re, .int .i64 rv] 40) = W0 at *
  have hwl := HX.out.lt
  have HP0 : RowKit.Hid (P W0.drew) := Lib.hid (HBL.out _ _ HPW.out (Below.drewN' (Below.refl _ _) 1))
  have x0 := HX.out.cell (i := 0) rfl
  have x1 := HX.out.cell (i := 1) rfl
  have x2 := HX.out.cell (i := 2) rfl
  have x3 := HX.out.cell (i := 3) rfl
  have x4 := HX.out.cell (i := 4) rfl
  have x5 := HX.out.cell (i := 5) rfl
  have x6 := HX.out.cell (i := 6) rfl
  have x7 := HX.out.cell (i := 7) rfl
  have x8 := HX.out.cell (i := 8) rfl
  have x9 := HX.out.cell (i := 9) rfl
  have x10 := HX.out.cell (i := 10) rfl
  have x11 := HX.out.cell (i := 11) rfl
  have x12 := HX.out.cell (i := 12) rfl
  go_region_held3 (fun w' => w'.cell? ⟨w.heap.size, 1, none⟩ = some (.int .i64 th) ∧ w'.cell? ⟨w.heap.size, 3, none⟩ = some (.int .i64 tm)) (first | go_keep | (simp only [hk0]; go_keep)) (first
    | (go_at_call 35; (with_reducible refine (HD0.out W0.drew HP0.out).mono ?_); rintro er v1 ⟨rfl, hb1⟩; have hB1 : Below W0.heap.size W0 v1 := ⟨hb1.os, hb1.tape, hb1.output, hb1.size, hb1.block⟩; have hk0 := fun o => hB1.cell (p := ⟨w.heap.size, o, none⟩) hwl; have HP1 := Lib.hid (HBL.out _ _ HPW.out hB1))
    | (go_at_call 35; (with_reducible refine (HD1.out v1 HP1.out).mono ?_); rintro er v2 ⟨rfl, hb2⟩; have hB2 : Below W0.heap.size W0 v2 := hB1.trans (hb2.mono hB1.size); have hk0 := fun o => hB2.cell (p := ⟨w.heap.size, o, none⟩) hwl; have HP2 := Lib.hid (HBL.out _ _ HPW.out hB2)))
  have HB2 := Lib.hid (HB0.out.trans (hB2.mono HB0.out.size))
  have HX2 := Lib.hid (HX.out.below hB2 hwl)
  have HPV := HP2
  clear x0 x1 x2 x3 x4 x5 x6 x7 x8 x9 x10 x11 x12 hwl hb1 hb2 hB1 hB2 hk0 HP0 HP1 HP2 HPW HX HB0
  have x0 := HX2.out.cell (i := 0) rfl
  have x1 := HX2.out.cell (i := 1) rfl
  have x2 := HX2.out.cell (i := 2) rfl
  have x3 := HX2.out.cell (i := 3) rfl
  have x4 := HX2.out.cell (i := 4) rfl
  have x5 := HX2.out.cell (i := 5) rfl
  have x6 := HX2.out.cell (i := 6) rfl
  have x7 := HX2.out.cell (i := 7) rfl
  have x8 := HX2.out.cell (i := 8) rfl
  have x9 := HX2.out.cell (i := 9) rfl
  have x10 := HX2.out.cell (i := 10) rfl
  have x11 := HX2.out.cell (i := 11) rfl
  have x12 := HX2.out.cell (i := 12) rfl
  go_wp2_with (go_at_call 38; refine (HR.out _ HPV.out).mono ?_; rintro er W3 ⟨rfl, hb3⟩)
  go_ret
  exact ⟨by rw [HVAL.out, ← (show (⟨#[32]⟩ : ByteArray) ++ ⟨#[114, 101, 116, 117, 114, 110, 115, 32]⟩ = ⟨#[32, 114, 101, 116, 117, 114, 110, 115, 32]⟩ by decide)]; simp only [ByteArray.append_assoc]; rfl, HB2.out.trans (hb3.mono HB2.out.size)⟩

set_option maxHeartbeats 16000000 in
set_option maxRecDepth 100000 in
theorem vNote_0 (kn th sq tm kd ar vl : Int) (df : Bool) (QA : Option Addr) (qn qc : Nat) (rs rc re rv : Int) (cs : List Cse) (w : World) (hk1 : ¬ kn = 1) (hk2 : ¬ kn = 2) (hk3 : ¬ kn = 3) (h1 : In64 tm) (h2 : In64 th) (h3 : In64 sq) (h4 : In64 rs) (h5 : In64 rv) (h6 : In64 rc) (hn : qn ≤ 1048570) (hc : CallIn ⟨kd, ar, vl, df, QA, qn, qc⟩ cs) (hv : VIn ⟨kd, ar, vl, df, QA, qn, qc⟩ cs w) :
    Calls Tryz.prog 11 #[.agg #[.int .i64 kn, .int .i64 th, .int .i64 sq, .int .i64 tm, .int .i64 kd, .int .i64 ar, .int .i64 vl, .bool df, .slice QA qn qc, .int .i64 rs, .int .i64 rc, .int .i64 re, .int .i64 rv]] w fun e w' => e = .returned (.string (noteS ⟨kn, th, sq, tm, ⟨kd, ar, vl, df, QA, qn, qc⟩, ⟨rs, rc, re, rv⟩⟩ cs)) ∧ Below w.heap.size w w' := by
  have HX : RowKit.Hid (Blk (w.alloc (.cells #[.int .i64 kn, .int .i64 th, .int .i64 sq, .int .i64 tm, .int .i64 kd, .int .i64 ar, .int .i64 vl, .bool df, .slice QA qn qc, .int .i64 rs, .int .i64 rc, .int .i64 re, .int .i64 rv] 40)) w.heap.size 40 [.int .i64 kn, .int .i64 th, .int .i64 sq, .int .i64 tm, .int .i64 kd, .int .i64 ar, .int .i64 vl, .bool df, .slice QA qn qc, .int .i64 rs, .int .i64 rc, .int .i64 re, .int .i64 rv]) := Lib.hid (Blk.new w _ _)
  have HB0 := Lib.hid ((Below.refl w.heap.size w).alloc (Nat.le_refl _) (.cells #[.int .i64 kn, .int .i64 th, .int .i64 sq, .int .i64 tm, .int .i64 kd, .int .i64 ar, .int .i64 vl, .bool df, .slice QA qn qc, .int .i64 rs, .int .i64 rc, .int .i64 re, .int .i64 rv] 40))
  have HVAL : RowKit.Hid (noteS ⟨kn, th, sq, tm, ⟨kd, ar, vl, df, QA, qn, qc⟩, ⟨rs, rc, re, rv⟩⟩ cs = itoaS tm ++ ⟨#[32, 116, 104, 114, 101, 97, 100, 32]⟩ ++ itoaS th ++ ⟨#[32, 110, 111, 116, 104, 105, 110, 103]⟩) := Lib.hid (by unfold noteS; simp [hk1, hk2, hk3])
  have HPW := Lib.hid (hv.below HB0.out)
  have HD0 := Lib.hid (fun W (h : VIn ⟨kd, ar, vl, df, QA, qn, qc⟩ cs W) => dec_any tm W h1 h.tab)
  have HD1 := Lib.hid (fun W (h : VIn ⟨kd, ar, vl, df, QA, qn, qc⟩ cs W) => dec_any th W h2 h.tab)
  have HD2 := Lib.hid (fun W (h : VIn ⟨kd, ar, vl, df, QA, qn, qc⟩ cs W) => dec_any sq W h3 h.tab)
  have HR := Lib.hid (fun W (h : VIn ⟨kd, ar, vl, df, QA, qn, qc⟩ cs W) => vRes_any ⟨rs, rc, re, rv⟩ W h4 h5 h6 h.tab)
  have HC := Lib.hid (fun W (h : VIn ⟨kd, ar, vl, df, QA, qn, qc⟩ cs W) => Say24_any ⟨kd, ar, vl, df, QA, qn, qc⟩ cs W h.req hn hc h.err h.tab h.ml)
  have b1 : (kn == 1) = false := by simp [hk1]
  have b2 : (kn == 2) = false := by simp [hk2]
  have b3 : (kn == 3) = false := by simp [hk3]
  have k0 := itoaS_size h1
  have k1 := itoaS_size h2
  have k2 := itoaS_size h3
  have k3 := resS_size (r := ⟨rs, rc, re, rv⟩) h4 h5 h6
  have k4 := callS_size hc
  have k5 := hv.req.len
  simp only at k5
  unfold reqV at HC
  unfold rsV at HR
  simp only at HC HR
  generalize hP : VIn ⟨kd, ar, vl, df, QA, qn, qc⟩ cs = P at *
  have HBL : RowKit.Hid (∀ (w w' : World), P w → Below w.heap.size w w' → P w') := Lib.hid (by rw [← hP]; exact fun w w' h hb => VIn.below h hb)
  generalize noteS ⟨kn, th, sq, tm, ⟨kd, ar, vl, df, QA, qn, qc⟩, ⟨rs, rc, re, rv⟩⟩ cs = T at *
  generalize itoaS tm = z0 at *
  generalize itoaS th = z1 at *
  generalize itoaS sq = z2 at *
  generalize resS ⟨rs, rc, re, rv⟩ = rr at *
  generalize callS ⟨kd, ar, vl, df, QA, qn, qc⟩ cs = cc at *
  have d0 : ¬ 9223372036854775807 < z0.size + 8 := by omega
  have d1 : ¬ 9223372036854775807 < z0.size + 8 + z1.size := by omega
  have d2 : ¬ 9223372036854775807 < z0.size + 8 + z1.size + 1 := by omega
  have d3 : ¬ 9223372036854775807 < z0.size + 8 + z1.size + 1 + 7 := by omega
  clear hP hk1 hk2 hk3 h1 h2 h3 h4 h5 h6 hn hc hv k0 k1 k2 k3 k4 k5
  go_enter Tryz.func11, Tryz.ntmps11
  go_upto_region 1 with (fail)
  generalize w.alloc (.cells #[.int .i64 kn, .int .i64 th, .int .i64 sq, .int .i64 tm, .int .i64 kd, .int .i64 ar, .int .i64 vl, .bool df, .slice QA qn qc, .int .i64 rs, .int .i64 rc, .int .i64 re, .int .i64 rv] 40) = W0 at *
  have hwl := HX.out.lt
  have HP0 : RowKit.Hid (P W0.drew) := Lib.hid (HBL.out _ _ HPW.out (Below.drewN' (Below.refl _ _) 1))
  have x0 := HX.out.cell (i := 0) rfl
  have x1 := HX.out.cell (i := 1) rfl
  have x2 := HX.out.cell (i := 2) rfl
  have x3 := HX.out.cell (i := 3) rfl
  have x4 := HX.out.cell (i := 4) rfl
  have x5 := HX.out.cell (i := 5) rfl
  have x6 := HX.out.cell (i := 6) rfl
  have x7 := HX.out.cell (i := 7) rfl
  have x8 := HX.out.cell (i := 8) rfl
  have x9 := HX.out.cell (i := 9) rfl
  have x10 := HX.out.cell (i := 10) rfl
  have x11 := HX.out.cell (i := 11) rfl
  have x12 := HX.out.cell (i := 12) rfl
  go_region_held3 (fun w' => w'.cell? ⟨w.heap.size, 1, none⟩ = some (.int .i64 th) ∧ w'.cell? ⟨w.heap.size, 3, none⟩ = some (.int .i64 tm)) (first | go_keep | (simp only [hk0]; go_keep)) (first
    | (go_at_call 35; (with_reducible refine (HD0.out W0.drew HP0.out).mono ?_); rintro er v1 ⟨rfl, hb1⟩; have hB1 : Below W0.heap.size W0 v1 := ⟨hb1.os, hb1.tape, hb1.output, hb1.size, hb1.block⟩; have hk0 := fun o => hB1.cell (p := ⟨w.heap.size, o, none⟩) hwl; have HP1 := Lib.hid (HBL.out _ _ HPW.out hB1))
    | (go_at_call 35; (with_reducible refine (HD1.out v1 HP1.out).mono ?_); rintro er v2 ⟨rfl, hb2⟩; have hB2 : Below W0.heap.size W0 v2 := hB1.trans (hb2.mono hB1.size); have hk0 := fun o => hB2.cell (p := ⟨w.heap.size, o, none⟩) hwl; have HP2 := Lib.hid (HBL.out _ _ HPW.out hB2)))
  have HB2 := Lib.hid (HB0.out.trans (hB2.mono HB0.out.size))
  have HX2 := Lib.hid (HX.out.below hB2 hwl)
  have HPV := HP2
  clear x0 x1 x2 x3 x4 x5 x6 x7 x8 x9 x10 x11 x12 hwl hb1 hb2 hB1 hB2 hk0 HP0 HP1 HP2 HPW HX HB0
  have x0 := HX2.out.cell (i := 0) rfl
  have x1 := HX2.out.cell (i := 1) rfl
  have x2 := HX2.out.cell (i := 2) rfl
  have x3 := HX2.out.cell (i := 3) rfl
  have x4 := HX2.out.cell (i := 4) rfl
  have x5 := HX2.out.cell (i := 5) rfl
  have x6 := HX2.out.cell (i := 6) rfl
  have x7 := HX2.out.cell (i := 7) rfl
  have x8 := HX2.out.cell (i := 8) rfl
  have x9 := HX2.out.cell (i := 9) rfl
  have x10 := HX2.out.cell (i := 10) rfl
  have x11 := HX2.out.cell (i := 11) rfl
  have x12 := HX2.out.cell (i := 12) rfl
  go_wp2_with fail
  go_ret
  exact ⟨by rw [HVAL.out, ← (show (⟨#[32]⟩ : ByteArray) ++ ⟨#[110, 111, 116, 104, 105, 110, 103]⟩ = ⟨#[32, 110, 111, 116, 104, 105, 110, 103]⟩ by decide)]; simp only [ByteArray.append_assoc]; rfl, HB2.out⟩

theorem vNote_any (k : NotR) (cs : List Cse) (w : World) (h1 : In64 k.tm) (h2 : In64 k.th) (h3 : In64 k.sq) (h4 : In64 k.r.seq) (h5 : In64 k.r.value) (h6 : In64 k.r.case_) (hn : k.q.n ≤ 1048570) (hc : CallIn k.q cs) (hv : VIn k.q cs w) :
    Calls Tryz.prog 11 #[noteV k] w fun e w' => e = .returned (.string (noteS k cs)) ∧ Below w.heap.size w w' := by
  obtain ⟨kn, th, sq, tm, ⟨kd, ar, vl, df, QA, qn, qc⟩, ⟨rs, rc, re, rv⟩⟩ := k
  by_cases hk1 : kn = 1
  · exact vNote_1 kn th sq tm kd ar vl df QA qn qc rs rc re rv cs w hk1 h1 h2 h3 h4 h5 h6 hn hc hv
  by_cases hk2 : kn = 2
  · exact vNote_2 kn th sq tm kd ar vl df QA qn qc rs rc re rv cs w hk2 h1 h2 h3 h4 h5 h6 hn hc hv
  by_cases hk3 : kn = 3
  · exact vNote_3 kn th sq tm kd ar vl df QA qn qc rs rc re rv cs w hk3 h1 h2 h3 h4 h5 h6 hn hc hv
  exact vNote_0 kn th sq tm kd ar vl df QA qn qc rs rc re rv cs w hk1 hk2 hk3 h1 h2 h3 h4 h5 h6 hn hc hv

set_option maxHeartbeats 16000000 in
set_option maxRecDepth 100000 in
theorem rNote_1 (kn th sq tm kd ar vl : Int) (df : Bool) (QA : Option Addr) (qn qc : Nat) (rs rc re rv : Int) (cs : List Cse) (w : World) (hk : kn = 1) (h1 : In64 tm) (h2 : In64 th) (h3 : In64 sq) (h4 : In64 rs) (h5 : In64 rv) (h6 : In64 rc) (hn : qn ≤ 1048570) (hc : CallIn ⟨kd, ar, vl, df, QA, qn, qc⟩ cs) (hv : VIn ⟨kd, ar, vl, df, QA, qn, qc⟩ cs w) :
    Calls Tryz.prog 12 #[.agg #[.int .i64 kn, .int .i64 th, .int .i64 sq, .int .i64 tm, .int .i64 kd, .int .i64 ar, .int .i64 vl, .bool df, .slice QA qn qc, .int .i64 rs, .int .i64 rc, .int .i64 re, .int .i64 rv]] w fun e w' => e = .returned (.string (noteS ⟨kn, th, sq, tm, ⟨kd, ar, vl, df, QA, qn, qc⟩, ⟨rs, rc, re, rv⟩⟩ cs)) ∧ Below w.heap.size w w' := by
  have HX : RowKit.Hid (Blk (w.alloc (.cells #[.int .i64 kn, .int .i64 th, .int .i64 sq, .int .i64 tm, .int .i64 kd, .int .i64 ar, .int .i64 vl, .bool df, .slice QA qn qc, .int .i64 rs, .int .i64 rc, .int .i64 re, .int .i64 rv] 40)) w.heap.size 40 [.int .i64 kn, .int .i64 th, .int .i64 sq, .int .i64 tm, .int .i64 kd, .int .i64 ar, .int .i64 vl, .bool df, .slice QA qn qc, .int .i64 rs, .int .i64 rc, .int .i64 re, .int .i64 rv]) := Lib.hid (Blk.new w _ _)
  have HB0 := Lib.hid ((Below.refl w.heap.size w).alloc (Nat.le_refl _) (.cells #[.int .i64 kn, .int .i64 th, .int .i64 sq, .int .i64 tm, .int .i64 kd, .int .i64 ar, .int .i64 vl, .bool df, .slice QA qn qc, .int .i64 rs, .int .i64 rc, .int .i64 re, .int .i64 rv] 40))
  have HVAL : RowKit.Hid (noteS ⟨kn, th, sq, tm, ⟨kd, ar, vl, df, QA, qn, qc⟩, ⟨rs, rc, re, rv⟩⟩ cs = itoaS tm ++ ⟨#[32, 116, 104, 114, 101, 97, 100, 32]⟩ ++ itoaS th ++ ⟨#[32, 99, 97, 108, 108, 115, 32]⟩ ++ itoaS sq ++ ⟨#[32]⟩ ++ callS ⟨kd, ar, vl, df, QA, qn, qc⟩ cs) := Lib.hid (by unfold noteS; simp [hk])
  have HPW := Lib.hid (hv.below HB0.out)
  have HD0 := Lib.hid (fun W (h : VIn ⟨kd, ar, vl, df, QA, qn, qc⟩ cs W) => rdec_any tm W h1)
  have HD1 := Lib.hid (fun W (h : VIn ⟨kd, ar, vl, df, QA, qn, qc⟩ cs W) => rdec_any th W h2)
  have HD2 := Lib.hid (fun W (h : VIn ⟨kd, ar, vl, df, QA, qn, qc⟩ cs W) => rdec_any sq W h3)
  have HR := Lib.hid (fun W (h : VIn ⟨kd, ar, vl, df, QA, qn, qc⟩ cs W) => rRes_any ⟨rs, rc, re, rv⟩ W h4 h5 h6)
  have HC := Lib.hid (fun W (h : VIn ⟨kd, ar, vl, df, QA, qn, qc⟩ cs W) => rSay24_any ⟨kd, ar, vl, df, QA, qn, qc⟩ cs W h.req hn hc)
  have b1 : (kn == 1) = true := by simp [hk]
  have k0 := itoaS_size h1
  have k1 := itoaS_size h2
  have k2 := itoaS_size h3
  have k3 := resS_size (r := ⟨rs, rc, re, rv⟩) h4 h5 h6
  have k4 := callS_size hc
  have k5 := hv.req.len
  simp only at k5
  unfold reqV at HC
  unfold rsV at HR
  simp only at HC HR
  generalize hP : VIn ⟨kd, ar, vl, df, QA, qn, qc⟩ cs = P at *
  have HBL : RowKit.Hid (∀ (w w' : World), P w → Below w.heap.size w w' → P w') := Lib.hid (by rw [← hP]; exact fun w w' h hb => VIn.below h hb)
  generalize noteS ⟨kn, th, sq, tm, ⟨kd, ar, vl, df, QA, qn, qc⟩, ⟨rs, rc, re, rv⟩⟩ cs = T at *
  generalize itoaS tm = z0 at *
  generalize itoaS th = z1 at *
  generalize itoaS sq = z2 at *
  generalize resS ⟨rs, rc, re, rv⟩ = rr at *
  generalize callS ⟨kd, ar, vl, df, QA, qn, qc⟩ cs = cc at *
  have d0 : ¬ 9223372036854775807 < z0.size + 8 := by omega
  have d1 : ¬ 9223372036854775807 < z0.size + 8 + z1.size := by omega
  have d2 : ¬ 9223372036854775807 < z0.size + 8 + z1.size + 7 := by omega
  have d3 : ¬ 9223372036854775807 < z0.size + 8 + z1.size + 7 + z2.size := by omega
  have d4 : ¬ 9223372036854775807 < z0.size + 8 + z1.size + 7 + z2.size + 1 := by omega
  have d5 : ¬ 9223372036854775807 < z0.size + 8 + z1.size + 7 + z2.size + 1 + cc.size := by omega
  clear hP hk h1 h2 h3 h4 h5 h6 hn hc hv k0 k1 k2 k3 k4 k5
  go_enter Tryz.func12, Tryz.ntmps12
  go_upto_region 1 with (fail)
  generalize w.alloc (.cells #[.int .i64 kn, .int .i64 th, .int .i64 sq, .int .i64 tm, .int .i64 kd, .int .i64 ar, .int .i64 vl, .bool df, .slice QA qn qc, .int .i64 rs, .int .i64 rc, .int .i64 re, .int .i64 rv] 40) = W0 at *
  have hwl := HX.out.lt
  have HP0 : RowKit.Hid (P W0.drew) := Lib.hid (HBL.out _ _ HPW.out (Below.drewN' (Below.refl _ _) 1))
  have x0 := HX.out.cell (i := 0) rfl
  have x1 := HX.out.cell (i := 1) rfl
  have x2 := HX.out.cell (i := 2) rfl
  have x3 := HX.out.cell (i := 3) rfl
  have x4 := HX.out.cell (i := 4) rfl
  have x5 := HX.out.cell (i := 5) rfl
  have x6 := HX.out.cell (i := 6) rfl
  have x7 := HX.out.cell (i := 7) rfl
  have x8 := HX.out.cell (i := 8) rfl
  have x9 := HX.out.cell (i := 9) rfl
  have x10 := HX.out.cell (i := 10) rfl
  have x11 := HX.out.cell (i := 11) rfl
  have x12 := HX.out.cell (i := 12) rfl
  go_region_held3 (fun w' => w'.cell? ⟨w.heap.size, 1, none⟩ = some (.int .i64 th) ∧ w'.cell? ⟨w.heap.size, 3, none⟩ = some (.int .i64 tm)) (first | go_keep | (simp only [hk0]; go_keep)) (first
    | (go_at_call 37; (with_reducible refine (HD0.out W0.drew HP0.out).mono ?_); rintro er v1 ⟨rfl, hb1⟩; have hB1 : Below W0.heap.size W0 v1 := ⟨hb1.os, hb1.tape, hb1.output, hb1.size, hb1.block⟩; have hk0 := fun o => hB1.cell (p := ⟨w.heap.size, o, none⟩) hwl; have HP1 := Lib.hid (HBL.out _ _ HPW.out hB1))
    | (go_at_call 37; (with_reducible refine (HD1.out v1 HP1.out).mono ?_); rintro er v2 ⟨rfl, hb2⟩; have hB2 : Below W0.heap.size W0 v2 := hB1.trans (hb2.mono hB1.size); have hk0 := fun o => hB2.cell (p := ⟨w.heap.size, o, none⟩) hwl; have HP2 := Lib.hid (HBL.out _ _ HPW.out hB2)))
  have HB2 := Lib.hid (HB0.out.trans (hB2.mono HB0.out.size))
  have HX2 := Lib.hid (HX.out.below hB2 hwl)
  have HPV := HP2
  clear x0 x1 x2 x3 x4 x5 x6 x7 x8 x9 x10 x11 x12 hwl hb1 hb2 hB1 hB2 hk0 HP0 HP1 HP2 HPW HX HB0
  have x0 := HX2.out.cell (i := 0) rfl
  have x1 := HX2.out.cell (i := 1) rfl
  have x2 := HX2.out.cell (i := 2) rfl
  have x3 := HX2.out.cell (i := 3) rfl
  have x4 := HX2.out.cell (i := 4) rfl
  have x5 := HX2.out.cell (i := 5) rfl
  have x6 := HX2.out.cell (i := 6) rfl
  have x7 := HX2.out.cell (i := 7) rfl
  have x8 := HX2.out.cell (i := 8) rfl
  have x9 := HX2.out.cell (i := 9) rfl
  have x10 := HX2.out.cell (i := 10) rfl
  have x11 := HX2.out.cell (i := 11) rfl
  have x12 := HX2.out.cell (i := 12) rfl
  have HP0 : RowKit.Hid (P v2.drew) := Lib.hid (HBL.out _ _ HPV.out (Below.drewN' (Below.refl _ _) 1))
  have hwl := HX2.out.lt
  go_upto_region 4 with (fail)
  generalize v2 = W2 at *
  go_region_held3 (fun w' => w'.cell? ⟨w.heap.size, 2, none⟩ = some (.int .i64 sq) ∧ w'.cell? ⟨w.heap.size, 4, none⟩ = some (.int .i64 kd) ∧ w'.cell? ⟨w.heap.size, 5, none⟩ = some (.int .i64 ar) ∧ w'.cell? ⟨w.heap.size, 6, none⟩ = some (.int .i64 vl) ∧ w'.cell? ⟨w.heap.size, 7, none⟩ = some (.bool df) ∧ w'.cell? ⟨w.heap.size, 8, none⟩ = some (.slice QA qn qc)) (first | go_keep | (simp only [hk0]; go_keep)) (first
    | (go_at_call 37; (with_reducible refine (HD2.out W2.drew HP0.out).mono ?_); rintro er v1 ⟨rfl, hb1⟩; have hB1 : Below W2.heap.size W2 v1 := ⟨hb1.os, hb1.tape, hb1.output, hb1.size, hb1.block⟩; have hk0 := fun o => hB1.cell (p := ⟨w.heap.size, o, none⟩) hwl; have HP1 := Lib.hid (HBL.out _ _ HPV.out hB1))
    | (go_at_call 32; (with_reducible refine (HC.out v1 HP1.out).mono ?_); rintro er v2 ⟨rfl, hb2⟩; have hB2 : Below W2.heap.size W2 v2 := hB1.trans (hb2.mono hB1.size); have hk0 := fun o => hB2.cell (p := ⟨w.heap.size, o, none⟩) hwl; have HP2 := Lib.hid (HBL.out _ _ HPV.out hB2)))
  have HB3 := Lib.hid (HB2.out.trans (hB2.mono HB2.out.size))
  go_wp2_with fail
  go_ret
  exact ⟨by rw [HVAL.out]; rfl, HB3.out⟩

set_option maxHeartbeats 16000000 in
set_option maxRecDepth 100000 in
theorem rNote_2 (kn th sq tm kd ar vl : Int) (df : Bool) (QA : Option Addr) (qn qc : Nat) (rs rc re rv : Int) (cs : List Cse) (w : World) (hk : kn = 2) (h1 : In64 tm) (h2 : In64 th) (h3 : In64 sq) (h4 : In64 rs) (h5 : In64 rv) (h6 : In64 rc) (hn : qn ≤ 1048570) (hc : CallIn ⟨kd, ar, vl, df, QA, qn, qc⟩ cs) (hv : VIn ⟨kd, ar, vl, df, QA, qn, qc⟩ cs w) :
    Calls Tryz.prog 12 #[.agg #[.int .i64 kn, .int .i64 th, .int .i64 sq, .int .i64 tm, .int .i64 kd, .int .i64 ar, .int .i64 vl, .bool df, .slice QA qn qc, .int .i64 rs, .int .i64 rc, .int .i64 re, .int .i64 rv]] w fun e w' => e = .returned (.string (noteS ⟨kn, th, sq, tm, ⟨kd, ar, vl, df, QA, qn, qc⟩, ⟨rs, rc, re, rv⟩⟩ cs)) ∧ Below w.heap.size w w' := by
  have HX : RowKit.Hid (Blk (w.alloc (.cells #[.int .i64 kn, .int .i64 th, .int .i64 sq, .int .i64 tm, .int .i64 kd, .int .i64 ar, .int .i64 vl, .bool df, .slice QA qn qc, .int .i64 rs, .int .i64 rc, .int .i64 re, .int .i64 rv] 40)) w.heap.size 40 [.int .i64 kn, .int .i64 th, .int .i64 sq, .int .i64 tm, .int .i64 kd, .int .i64 ar, .int .i64 vl, .bool df, .slice QA qn qc, .int .i64 rs, .int .i64 rc, .int .i64 re, .int .i64 rv]) := Lib.hid (Blk.new w _ _)
  have HB0 := Lib.hid ((Below.refl w.heap.size w).alloc (Nat.le_refl _) (.cells #[.int .i64 kn, .int .i64 th, .int .i64 sq, .int .i64 tm, .int .i64 kd, .int .i64 ar, .int .i64 vl, .bool df, .slice QA qn qc, .int .i64 rs, .int .i64 rc, .int .i64 re, .int .i64 rv] 40))
  have HVAL : RowKit.Hid (noteS ⟨kn, th, sq, tm, ⟨kd, ar, vl, df, QA, qn, qc⟩, ⟨rs, rc, re, rv⟩⟩ cs = itoaS tm ++ ⟨#[32, 116, 104, 114, 101, 97, 100, 32]⟩ ++ itoaS th ++ ⟨#[32, 119, 97, 105, 116, 115, 32]⟩ ++ itoaS sq) := Lib.hid (by unfold noteS; simp [hk])
  have HPW := Lib.hid (hv.below HB0.out)
  have HD0 := Lib.hid (fun W (h : VIn ⟨kd, ar, vl, df, QA, qn, qc⟩ cs W) => rdec_any tm W h1)
  have HD1 := Lib.hid (fun W (h : VIn ⟨kd, ar, vl, df, QA, qn, qc⟩ cs W) => rdec_any th W h2)
  have HD2 := Lib.hid (fun W (h : VIn ⟨kd, ar, vl, df, QA, qn, qc⟩ cs W) => rdec_any sq W h3)
  have HR := Lib.hid (fun W (h : VIn ⟨kd, ar, vl, df, QA, qn, qc⟩ cs W) => rRes_any ⟨rs, rc, re, rv⟩ W h4 h5 h6)
  have HC := Lib.hid (fun W (h : VIn ⟨kd, ar, vl, df, QA, qn, qc⟩ cs W) => rSay24_any ⟨kd, ar, vl, df, QA, qn, qc⟩ cs W h.req hn hc)
  have b1 : (kn == 1) = false := by simp [hk]
  have b2 : (kn == 2) = true := by simp [hk]
  have k0 := itoaS_size h1
  have k1 := itoaS_size h2
  have k2 := itoaS_size h3
  have k3 := resS_size (r := ⟨rs, rc, re, rv⟩) h4 h5 h6
  have k4 := callS_size hc
  have k5 := hv.req.len
  simp only at k5
  unfold reqV at HC
  unfold rsV at HR
  simp only at HC HR
  generalize hP : VIn ⟨kd, ar, vl, df, QA, qn, qc⟩ cs = P at *
  have HBL : RowKit.Hid (∀ (w w' : World), P w → Below w.heap.size w w' → P w') := Lib.hid (by rw [← hP]; exact fun w w' h hb => VIn.below h hb)
  generalize noteS ⟨kn, th, sq, tm, ⟨kd, ar, vl, df, QA, qn, qc⟩, ⟨rs, rc, re, rv⟩⟩ cs = T at *
  generalize itoaS tm = z0 at *
  generalize itoaS th = z1 at *
  generalize itoaS sq = z2 at *
  generalize resS ⟨rs, rc, re, rv⟩ = rr at *
  generalize callS ⟨kd, ar, vl, df, QA, qn, qc⟩ cs = cc at *
  have d0 : ¬ 9223372036854775807 < z0.size + 8 := by omega
  have d1 : ¬ 9223372036854775807 < z0.size + 8 + z1.size := by omega
  have d2 : ¬ 9223372036854775807 < z0.size + 8 + z1.size + 7 := by omega
  have d3 : ¬ 9223372036854775807 < z0.size + 8 + z1.size + 7 + z2.size := by omega
  clear hP hk h1 h2 h3 h4 h5 h6 hn hc hv k0 k1 k2 k3 k4 k5
  go_enter Tryz.func12, Tryz.ntmps12
  go_upto_region 1 with (fail)
  generalize w.alloc (.cells #[.int .i64 kn, .int .i64 th, .int .i64 sq, .int .i64 tm, .int .i64 kd, .int .i64 ar, .int .i64 vl, .bool df, .slice QA qn qc, .int .i64 rs, .int .i64 rc, .int .i64 re, .int .i64 rv] 40) = W0 at *
  have hwl := HX.out.lt
  have HP0 : RowKit.Hid (P W0.drew) := Lib.hid (HBL.out _ _ HPW.out (Below.drewN' (Below.refl _ _) 1))
  have x0 := HX.out.cell (i := 0) rfl
  have x1 := HX.out.cell (i := 1) rfl
  have x2 := HX.out.cell (i := 2) rfl
  have x3 := HX.out.cell (i := 3) rfl
  have x4 := HX.out.cell (i := 4) rfl
  have x5 := HX.out.cell (i := 5) rfl
  have x6 := HX.out.cell (i := 6) rfl
  have x7 := HX.out.cell (i := 7) rfl
  have x8 := HX.out.cell (i := 8) rfl
  have x9 := HX.out.cell (i := 9) rfl
  have x10 := HX.out.cell (i := 10) rfl
  have x11 := HX.out.cell (i := 11) rfl
  have x12 := HX.out.cell (i := 12) rfl
  go_region_held3 (fun w' => w'.cell? ⟨w.heap.size, 1, none⟩ = some (.int .i64 th) ∧ w'.cell? ⟨w.heap.size, 3, none⟩ = some (.int .i64 tm)) (first | go_keep | (simp only [hk0]; go_keep)) (first
    | (go_at_call 37; (with_reducible refine (HD0.out W0.drew HP0.out).mono ?_); rintro er v1 ⟨rfl, hb1⟩; have hB1 : Below W0.heap.size W0 v1 := ⟨hb1.os, hb1.tape, hb1.output, hb1.size, hb1.block⟩; have hk0 := fun o => hB1.cell (p := ⟨w.heap.size, o, none⟩) hwl; have HP1 := Lib.hid (HBL.out _ _ HPW.out hB1))
    | (go_at_call 37; (with_reducible refine (HD1.out v1 HP1.out).mono ?_); rintro er v2 ⟨rfl, hb2⟩; have hB2 : Below W0.heap.size W0 v2 := hB1.trans (hb2.mono hB1.size); have hk0 := fun o => hB2.cell (p := ⟨w.heap.size, o, none⟩) hwl; have HP2 := Lib.hid (HBL.out _ _ HPW.out hB2)))
  have HB2 := Lib.hid (HB0.out.trans (hB2.mono HB0.out.size))
  have HX2 := Lib.hid (HX.out.below hB2 hwl)
  have HPV := HP2
  clear x0 x1 x2 x3 x4 x5 x6 x7 x8 x9 x10 x11 x12 hwl hb1 hb2 hB1 hB2 hk0 HP0 HP1 HP2 HPW HX HB0
  have x0 := HX2.out.cell (i := 0) rfl
  have x1 := HX2.out.cell (i := 1) rfl
  have x2 := HX2.out.cell (i := 2) rfl
  have x3 := HX2.out.cell (i := 3) rfl
  have x4 := HX2.out.cell (i := 4) rfl
  have x5 := HX2.out.cell (i := 5) rfl
  have x6 := HX2.out.cell (i := 6) rfl
  have x7 := HX2.out.cell (i := 7) rfl
  have x8 := HX2.out.cell (i := 8) rfl
  have x9 := HX2.out.cell (i := 9) rfl
  have x10 := HX2.out.cell (i := 10) rfl
  have x11 := HX2.out.cell (i := 11) rfl
  have x12 := HX2.out.cell (i := 12) rfl
  go_wp2_with (go_at_call 37; refine (HD2.out _ HPV.out).mono ?_; rintro er W3 ⟨rfl, hb3⟩)
  go_ret
  exact ⟨by rw [HVAL.out]; rfl, HB2.out.trans (hb3.mono HB2.out.size)⟩

set_option maxHeartbeats 16000000 in
set_option maxRecDepth 100000 in
theorem rNote_3 (kn th sq tm kd ar vl : Int) (df : Bool) (QA : Option Addr) (qn qc : Nat) (rs rc re rv : Int) (cs : List Cse) (w : World) (hk : kn = 3) (h1 : In64 tm) (h2 : In64 th) (h3 : In64 sq) (h4 : In64 rs) (h5 : In64 rv) (h6 : In64 rc) (hn : qn ≤ 1048570) (hc : CallIn ⟨kd, ar, vl, df, QA, qn, qc⟩ cs) (hv : VIn ⟨kd, ar, vl, df, QA, qn, qc⟩ cs w) :
    Calls Tryz.prog 12 #[.agg #[.int .i64 kn, .int .i64 th, .int .i64 sq, .int .i64 tm, .int .i64 kd, .int .i64 ar, .int .i64 vl, .bool df, .slice QA qn qc, .int .i64 rs, .int .i64 rc, .int .i64 re, .int .i64 rv]] w fun e w' => e = .returned (.string (noteS ⟨kn, th, sq, tm, ⟨kd, ar, vl, df, QA, qn, qc⟩, ⟨rs, rc, re, rv⟩⟩ cs)) ∧ Below w.heap.size w w' := by
  have HX : RowKit.Hid (Blk (w.alloc (.cells #[.int .i64 kn, .int .i64 th, .int .i64 sq, .int .i64 tm, .int .i64 kd, .int .i64 ar, .int .i64 vl, .bool df, .slice QA qn qc, .int .i64 rs, .int .i64 rc, .int .i64 re, .int .i64 rv] 40)) w.heap.size 40 [.int .i64 kn, .int .i64 th, .int .i64 sq, .int .i64 tm, .int .i64 kd, .int .i64 ar, .int .i64 vl, .bool df, .slice QA qn qc, .int .i64 rs, .int .i64 rc, .int .i64 re, .int .i64 rv]) := Lib.hid (Blk.new w _ _)
  have HB0 := Lib.hid ((Below.refl w.heap.size w).alloc (Nat.le_refl _) (.cells #[.int .i64 kn, .int .i64 th, .int .i64 sq, .int .i64 tm, .int .i64 kd, .int .i64 ar, .int .i64 vl, .bool df, .slice QA qn qc, .int .i64 rs, .int .i64 rc, .int .i64 re, .int .i64 rv] 40))
  have HVAL : RowKit.Hid (noteS ⟨kn, th, sq, tm, ⟨kd, ar, vl, df, QA, qn, qc⟩, ⟨rs, rc, re, rv⟩⟩ cs = itoaS tm ++ ⟨#[32, 116, 104, 114, 101, 97, 100, 32]⟩ ++ itoaS th ++ ⟨#[32, 114, 101, 116, 117, 114, 110, 115, 32]⟩ ++ resS ⟨rs, rc, re, rv⟩) := Lib.hid (by unfold noteS; simp [hk])
  have HPW := Lib.hid (hv.below HB0.out)
  have HD0 := Lib.hid (fun W (h : VIn ⟨kd, ar, vl, df, QA, qn, qc⟩ cs W) => rdec_any tm W h1)
  have HD1 := Lib.hid (fun W (h : VIn ⟨kd, ar, vl, df, QA, qn, qc⟩ cs W) => rdec_any th W h2)
  have HD2 := Lib.hid (fun W (h : VIn ⟨kd, ar, vl, df, QA, qn, qc⟩ cs W) => rdec_any sq W h3)
  have HR := Lib.hid (fun W (h : VIn ⟨kd, ar, vl, df, QA, qn, qc⟩ cs W) => rRes_any ⟨rs, rc, re, rv⟩ W h4 h5 h6)
  have HC := Lib.hid (fun W (h : VIn ⟨kd, ar, vl, df, QA, qn, qc⟩ cs W) => rSay24_any ⟨kd, ar, vl, df, QA, qn, qc⟩ cs W h.req hn hc)
  have b1 : (kn == 1) = false := by simp [hk]
  have b2 : (kn == 2) = false := by simp [hk]
  have b3 : (kn == 3) = true := by simp [hk]
  have k0 := itoaS_size h1
  have k1 := itoaS_size h2
  have k2 := itoaS_size h3
  have k3 := resS_size (r := ⟨rs, rc, re, rv⟩) h4 h5 h6
  have k4 := callS_size hc
  have k5 := hv.req.len
  simp only at k5
  unfold reqV at HC
  unfold rsV at HR
  simp only at HC HR
  generalize hP : VIn ⟨kd, ar, vl, df, QA, qn, qc⟩ cs = P at *
  have HBL : RowKit.Hid (∀ (w w' : World), P w → Below w.heap.size w w' → P w') := Lib.hid (by rw [← hP]; exact fun w w' h hb => VIn.below h hb)
  generalize noteS ⟨kn, th, sq, tm, ⟨kd, ar, vl, df, QA, qn, qc⟩, ⟨rs, rc, re, rv⟩⟩ cs = T at *
  generalize itoaS tm = z0 at *
  generalize itoaS th = z1 at *
  generalize itoaS sq = z2 at *
  generalize resS ⟨rs, rc, re, rv⟩ = rr at *
  generalize callS ⟨kd, ar, vl, df, QA, qn, qc⟩ cs = cc at *
  have d0 : ¬ 9223372036854775807 < z0.size + 8 := by omega
  have d1 : ¬ 9223372036854775807 < z0.size + 8 + z1.size := by omega
  have d2 : ¬ 9223372036854775807 < z0.size + 8 + z1.size + 9 := by omega
  have d3 : ¬ 9223372036854775807 < z0.size + 8 + z1.size + 9 + rr.size := by omega
  clear hP hk h1 h2 h3 h4 h5 h6 hn hc hv k0 k1 k2 k3 k4 k5
  go_enter Tryz.func12, Tryz.ntmps12
  go_upto_region 1 with (fail)
  generalize w.alloc (.cells #[.int .i64 kn, .int .i64 th, .int .i64 sq, .int .i64 tm, .int .i64 kd, .int .i64 ar, .int .i64 vl, .bool df, .slice QA qn qc, .int .i64 rs, .int .i64 rc, .int .i64 re, .int .i64 rv] 40) = W0 at *
  have hwl := HX.out.lt
  have HP0 : RowKit.Hid (P W0.drew) := Lib.hid (HBL.out _ _ HPW.out (Below.drewN' (Below.refl _ _) 1))
  have x0 := HX.out.cell (i := 0) rfl
  have x1 := HX.out.cell (i := 1) rfl
  have x2 := HX.out.cell (i := 2) rfl
  have x3 := HX.out.cell (i := 3) rfl
  have x4 := HX.out.cell (i := 4) rfl
  have x5 := HX.out.cell (i := 5) rfl
  have x6 := HX.out.cell (i := 6) rfl
  have x7 := HX.out.cell (i := 7) rfl
  have x8 := HX.out.cell (i := 8) rfl
  have x9 := HX.out.cell (i := 9) rfl
  have x10 := HX.out.cell (i := 10) rfl
  have x11 := HX.out.cell (i := 11) rfl
  have x12 := HX.out.cell (i := 12) rfl
  go_region_held3 (fun w' => w'.cell? ⟨w.heap.size, 1, none⟩ = some (.int .i64 th) ∧ w'.cell? ⟨w.heap.size, 3, none⟩ = some (.int .i64 tm)) (first | go_keep | (simp only [hk0]; go_keep)) (first
    | (go_at_call 37; (with_reducible refine (HD0.out W0.drew HP0.out).mono ?_); rintro er v1 ⟨rfl, hb1⟩; have hB1 : Below W0.heap.size W0 v1 := ⟨hb1.os, hb1.tape, hb1.output, hb1.size, hb1.block⟩; have hk0 := fun o => hB1.cell (p := ⟨w.heap.size, o, none⟩) hwl; have HP1 := Lib.hid (HBL.out _ _ HPW.out hB1))
    | (go_at_call 37; (with_reducible refine (HD1.out v1 HP1.out).mono ?_); rintro er v2 ⟨rfl, hb2⟩; have hB2 : Below W0.heap.size W0 v2 := hB1.trans (hb2.mono hB1.size); have hk0 := fun o => hB2.cell (p := ⟨w.heap.size, o, none⟩) hwl; have HP2 := Lib.hid (HBL.out _ _ HPW.out hB2)))
  have HB2 := Lib.hid (HB0.out.trans (hB2.mono HB0.out.size))
  have HX2 := Lib.hid (HX.out.below hB2 hwl)
  have HPV := HP2
  clear x0 x1 x2 x3 x4 x5 x6 x7 x8 x9 x10 x11 x12 hwl hb1 hb2 hB1 hB2 hk0 HP0 HP1 HP2 HPW HX HB0
  have x0 := HX2.out.cell (i := 0) rfl
  have x1 := HX2.out.cell (i := 1) rfl
  have x2 := HX2.out.cell (i := 2) rfl
  have x3 := HX2.out.cell (i := 3) rfl
  have x4 := HX2.out.cell (i := 4) rfl
  have x5 := HX2.out.cell (i := 5) rfl
  have x6 := HX2.out.cell (i := 6) rfl
  have x7 := HX2.out.cell (i := 7) rfl
  have x8 := HX2.out.cell (i := 8) rfl
  have x9 := HX2.out.cell (i := 9) rfl
  have x10 := HX2.out.cell (i := 10) rfl
  have x11 := HX2.out.cell (i := 11) rfl
  have x12 := HX2.out.cell (i := 12) rfl
  go_wp2_with (go_at_call 39; refine (HR.out _ HPV.out).mono ?_; rintro er W3 ⟨rfl, hb3⟩)
  go_ret
  exact ⟨by rw [HVAL.out]; rfl, HB2.out.trans (hb3.mono HB2.out.size)⟩

set_option maxHeartbeats 16000000 in
set_option maxRecDepth 100000 in
theorem rNote_0 (kn th sq tm kd ar vl : Int) (df : Bool) (QA : Option Addr) (qn qc : Nat) (rs rc re rv : Int) (cs : List Cse) (w : World) (hk1 : ¬ kn = 1) (hk2 : ¬ kn = 2) (hk3 : ¬ kn = 3) (h1 : In64 tm) (h2 : In64 th) (h3 : In64 sq) (h4 : In64 rs) (h5 : In64 rv) (h6 : In64 rc) (hn : qn ≤ 1048570) (hc : CallIn ⟨kd, ar, vl, df, QA, qn, qc⟩ cs) (hv : VIn ⟨kd, ar, vl, df, QA, qn, qc⟩ cs w) :
    Calls Tryz.prog 12 #[.agg #[.int .i64 kn, .int .i64 th, .int .i64 sq, .int .i64 tm, .int .i64 kd, .int .i64 ar, .int .i64 vl, .bool df, .slice QA qn qc, .int .i64 rs, .int .i64 rc, .int .i64 re, .int .i64 rv]] w fun e w' => e = .returned (.string (noteS ⟨kn, th, sq, tm, ⟨kd, ar, vl, df, QA, qn, qc⟩, ⟨rs, rc, re, rv⟩⟩ cs)) ∧ Below w.heap.size w w' := by
  have HX : RowKit.Hid (Blk (w.alloc (.cells #[.int .i64 kn, .int .i64 th, .int .i64 sq, .int .i64 tm, .int .i64 kd, .int .i64 ar, .int .i64 vl, .bool df, .slice QA qn qc, .int .i64 rs, .int .i64 rc, .int .i64 re, .int .i64 rv] 40)) w.heap.size 40 [.int .i64 kn, .int .i64 th, .int .i64 sq, .int .i64 tm, .int .i64 kd, .int .i64 ar, .int .i64 vl, .bool df, .slice QA qn qc, .int .i64 rs, .int .i64 rc, .int .i64 re, .int .i64 rv]) := Lib.hid (Blk.new w _ _)
  have HB0 := Lib.hid ((Below.refl w.heap.size w).alloc (Nat.le_refl _) (.cells #[.int .i64 kn, .int .i64 th, .int .i64 sq, .int .i64 tm, .int .i64 kd, .int .i64 ar, .int .i64 vl, .bool df, .slice QA qn qc, .int .i64 rs, .int .i64 rc, .int .i64 re, .int .i64 rv] 40))
  have HVAL : RowKit.Hid (noteS ⟨kn, th, sq, tm, ⟨kd, ar, vl, df, QA, qn, qc⟩, ⟨rs, rc, re, rv⟩⟩ cs = itoaS tm ++ ⟨#[32, 116, 104, 114, 101, 97, 100, 32]⟩ ++ itoaS th ++ ⟨#[32, 110, 111, 116, 104, 105, 110, 103]⟩) := Lib.hid (by unfold noteS; simp [hk1, hk2, hk3])
  have HPW := Lib.hid (hv.below HB0.out)
  have HD0 := Lib.hid (fun W (h : VIn ⟨kd, ar, vl, df, QA, qn, qc⟩ cs W) => rdec_any tm W h1)
  have HD1 := Lib.hid (fun W (h : VIn ⟨kd, ar, vl, df, QA, qn, qc⟩ cs W) => rdec_any th W h2)
  have HD2 := Lib.hid (fun W (h : VIn ⟨kd, ar, vl, df, QA, qn, qc⟩ cs W) => rdec_any sq W h3)
  have HR := Lib.hid (fun W (h : VIn ⟨kd, ar, vl, df, QA, qn, qc⟩ cs W) => rRes_any ⟨rs, rc, re, rv⟩ W h4 h5 h6)
  have HC := Lib.hid (fun W (h : VIn ⟨kd, ar, vl, df, QA, qn, qc⟩ cs W) => rSay24_any ⟨kd, ar, vl, df, QA, qn, qc⟩ cs W h.req hn hc)
  have b1 : (kn == 1) = false := by simp [hk1]
  have b2 : (kn == 2) = false := by simp [hk2]
  have b3 : (kn == 3) = false := by simp [hk3]
  have k0 := itoaS_size h1
  have k1 := itoaS_size h2
  have k2 := itoaS_size h3
  have k3 := resS_size (r := ⟨rs, rc, re, rv⟩) h4 h5 h6
  have k4 := callS_size hc
  have k5 := hv.req.len
  simp only at k5
  unfold reqV at HC
  unfold rsV at HR
  simp only at HC HR
  generalize hP : VIn ⟨kd, ar, vl, df, QA, qn, qc⟩ cs = P at *
  have HBL : RowKit.Hid (∀ (w w' : World), P w → Below w.heap.size w w' → P w') := Lib.hid (by rw [← hP]; exact fun w w' h hb => VIn.below h hb)
  generalize noteS ⟨kn, th, sq, tm, ⟨kd, ar, vl, df, QA, qn, qc⟩, ⟨rs, rc, re, rv⟩⟩ cs = T at *
  generalize itoaS tm = z0 at *
  generalize itoaS th = z1 at *
  generalize itoaS sq = z2 at *
  generalize resS ⟨rs, rc, re, rv⟩ = rr at *
  generalize callS ⟨kd, ar, vl, df, QA, qn, qc⟩ cs = cc at *
  have d0 : ¬ 9223372036854775807 < z0.size + 8 := by omega
  have d1 : ¬ 9223372036854775807 < z0.size + 8 + z1.size := by omega
  have d2 : ¬ 9223372036854775807 < z0.size + 8 + z1.size + 8 := by omega
  clear hP hk1 hk2 hk3 h1 h2 h3 h4 h5 h6 hn hc hv k0 k1 k2 k3 k4 k5
  go_enter Tryz.func12, Tryz.ntmps12
  go_upto_region 1 with (fail)
  generalize w.alloc (.cells #[.int .i64 kn, .int .i64 th, .int .i64 sq, .int .i64 tm, .int .i64 kd, .int .i64 ar, .int .i64 vl, .bool df, .slice QA qn qc, .int .i64 rs, .int .i64 rc, .int .i64 re, .int .i64 rv] 40) = W0 at *
  have hwl := HX.out.lt
  have HP0 : RowKit.Hid (P W0.drew) := Lib.hid (HBL.out _ _ HPW.out (Below.drewN' (Below.refl _ _) 1))
  have x0 := HX.out.cell (i := 0) rfl
  have x1 := HX.out.cell (i := 1) rfl
  have x2 := HX.out.cell (i := 2) rfl
  have x3 := HX.out.cell (i := 3) rfl
  have x4 := HX.out.cell (i := 4) rfl
  have x5 := HX.out.cell (i := 5) rfl
  have x6 := HX.out.cell (i := 6) rfl
  have x7 := HX.out.cell (i := 7) rfl
  have x8 := HX.out.cell (i := 8) rfl
  have x9 := HX.out.cell (i := 9) rfl
  have x10 := HX.out.cell (i := 10) rfl
  have x11 := HX.out.cell (i := 11) rfl
  have x12 := HX.out.cell (i := 12) rfl
  go_region_held3 (fun w' => w'.cell? ⟨w.heap.size, 1, none⟩ = some (.int .i64 th) ∧ w'.cell? ⟨w.heap.size, 3, none⟩ = some (.int .i64 tm)) (first | go_keep | (simp only [hk0]; go_keep)) (first
    | (go_at_call 37; (with_reducible refine (HD0.out W0.drew HP0.out).mono ?_); rintro er v1 ⟨rfl, hb1⟩; have hB1 : Below W0.heap.size W0 v1 := ⟨hb1.os, hb1.tape, hb1.output, hb1.size, hb1.block⟩; have hk0 := fun o => hB1.cell (p := ⟨w.heap.size, o, none⟩) hwl; have HP1 := Lib.hid (HBL.out _ _ HPW.out hB1))
    | (go_at_call 37; (with_reducible refine (HD1.out v1 HP1.out).mono ?_); rintro er v2 ⟨rfl, hb2⟩; have hB2 : Below W0.heap.size W0 v2 := hB1.trans (hb2.mono hB1.size); have hk0 := fun o => hB2.cell (p := ⟨w.heap.size, o, none⟩) hwl; have HP2 := Lib.hid (HBL.out _ _ HPW.out hB2)))
  have HB2 := Lib.hid (HB0.out.trans (hB2.mono HB0.out.size))
  have HX2 := Lib.hid (HX.out.below hB2 hwl)
  have HPV := HP2
  clear x0 x1 x2 x3 x4 x5 x6 x7 x8 x9 x10 x11 x12 hwl hb1 hb2 hB1 hB2 hk0 HP0 HP1 HP2 HPW HX HB0
  have x0 := HX2.out.cell (i := 0) rfl
  have x1 := HX2.out.cell (i := 1) rfl
  have x2 := HX2.out.cell (i := 2) rfl
  have x3 := HX2.out.cell (i := 3) rfl
  have x4 := HX2.out.cell (i := 4) rfl
  have x5 := HX2.out.cell (i := 5) rfl
  have x6 := HX2.out.cell (i := 6) rfl
  have x7 := HX2.out.cell (i := 7) rfl
  have x8 := HX2.out.cell (i := 8) rfl
  have x9 := HX2.out.cell (i := 9) rfl
  have x10 := HX2.out.cell (i := 10) rfl
  have x11 := HX2.out.cell (i := 11) rfl
  have x12 := HX2.out.cell (i := 12) rfl
  go_wp2_with fail
  go_ret
  exact ⟨by rw [HVAL.out]; rfl, HB2.out⟩

theorem rNote_any (k : NotR) (cs : List Cse) (w : World) (h1 : In64 k.tm) (h2 : In64 k.th) (h3 : In64 k.sq) (h4 : In64 k.r.seq) (h5 : In64 k.r.value) (h6 : In64 k.r.case_) (hn : k.q.n ≤ 1048570) (hc : CallIn k.q cs) (hv : VIn k.q cs w) :
    Calls Tryz.prog 12 #[noteV k] w fun e w' => e = .returned (.string (noteS k cs)) ∧ Below w.heap.size w w' := by
  obtain ⟨kn, th, sq, tm, ⟨kd, ar, vl, df, QA, qn, qc⟩, ⟨rs, rc, re, rv⟩⟩ := k
  by_cases hk1 : kn = 1
  · exact rNote_1 kn th sq tm kd ar vl df QA qn qc rs rc re rv cs w hk1 h1 h2 h3 h4 h5 h6 hn hc hv
  by_cases hk2 : kn = 2
  · exact rNote_2 kn th sq tm kd ar vl df QA qn qc rs rc re rv cs w hk2 h1 h2 h3 h4 h5 h6 hn hc hv
  by_cases hk3 : kn = 3
  · exact rNote_3 kn th sq tm kd ar vl df QA qn qc rs rc re rv cs w hk3 h1 h2 h3 h4 h5 h6 hn hc hv
  exact rNote_0 kn th sq tm kd ar vl df QA qn qc rs rc re rv cs w hk1 hk2 hk3 h1 h2 h3 h4 h5 h6 hn hc hv

end Go.Proofs.YtalkllfgedacoaaGreatDoor
