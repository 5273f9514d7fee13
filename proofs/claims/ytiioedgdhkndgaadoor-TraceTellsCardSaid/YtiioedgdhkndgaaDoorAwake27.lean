/- The example that each law of trace ends with, walked. -/
import Derived.Test.YtiioedgdhkndgaaDoorCnt
import Derived.Test.YtiioedgdhkndgaaDoorChgd
import Derived.Test.YtiioedgdhkndgaaDoorTrc2
namespace Go.Proofs.YtiioedgdhkndgaaDoor
open Go.RowKit Go.Sort

def ex0 : Acc := ⟨1, 3, 0, 2, 2, 9, true⟩
def ex1 : Acc := ⟨0, 1, 0, 0, 9, 9, true⟩
theorem ex_redo : redoS [2] [ex0, ex1] = ([9], 0) := by decide +kernel
theorem ex_undo : undoS [9] [ex0, ex1] = ([2], 0) := by decide +kernel
theorem ex_line : lineS ex0 = ⟨#[49, 32, 115, 119, 97, 112, 32, 48, 32, 50, 32, 57]⟩ := by decide +kernel
theorem ex_cnt : cntV [ex0, ex1] = cV 1 0 1 0 0 := rfl
theorem ex_chg : chgS [ex0, ex1] = [0] := by decide +kernel
theorem ex_ok : AccOk ex0 := ⟨⟨by decide, by decide⟩, ⟨by decide, by decide⟩, ⟨by decide, by decide⟩, ⟨by decide, by decide⟩, ⟨by decide, by decide⟩⟩

theorem eql_census (n0 n1 n2 n3 n4 : Int) (w : World) : (binOp .eql 86 (.agg #[.int .i64 n0, .int .i64 n1, .int .i64 n2, .int .i64 n3, .int .i64 n4]) (.agg #[.int .i64 n0, .int .i64 n1, .int .i64 n2, .int .i64 n3, .int .i64 n4])).run Tryd.prog w = .ok (.bool true) w := by
  simp [go_sem, binOp, Op.equal, Op.maxDepth]

set_option maxHeartbeats 8000000 in
set_option maxRecDepth 100000 in
theorem awake27_any (w : World) (ht : TabT w) (hz : Tz16 w) : Calls Tryd.prog 46 #[] w fun e w' => e = .returned (.bool true) ∧ Below w.heap.size w w' := by
  have HT := Lib.hid ht
  have HZ := Lib.hid hz
  have HEQ := eql_census 1 0 1 0 0
  clear ht hz
  go_enter Tryd.func46, Tryd.ntmps46
  go_wp2_with fail
  have hbl := (Below.refl w.heap.size w).alloc (Nat.le_refl _) (.cells (accs [ex0, ex1]).toArray 74)
  have hbw := hbl.alloc (by simp) (.cells (words [2]).toArray 62)
  have hkl : Blk ((w.alloc (.cells (accs [ex0, ex1]).toArray 74)).alloc (.cells (words [2]).toArray 62)) w.heap.size 74 (accs [ex0, ex1]) := (Blk.new w _ _).alloc _
  have hkw : Blk ((w.alloc (.cells (accs [ex0, ex1]).toArray 74)).alloc (.cells (words [2]).toArray 62)) (w.heap.size + 1) 62 (words [2]) := blk_new (by simp)
  have HB0 := Lib.hid hbw
  have HL0 := Lib.hid hkl
  clear hbl hbw hkl
  refine (Redo_any (some ⟨w.heap.size + 1, 0, none⟩) (some ⟨w.heap.size, 0, none⟩) 1 2 [2] [ex0, ex1] _ (by decide) (by decide) hkw.rd HL0.out.rd).mono ?_
  rintro e w1 hr
  rw [ex_redo] at hr
  obtain ⟨A1, c1, rfl, hrd1, hb1⟩ := hr
  have HL1 := Lib.hid (HL0.out.below hb1 HL0.out.lt)
  have HB1 := Lib.hid (HB0.out.trans (hb1.mono HB0.out.size))
  have HR1 := Lib.hid hrd1
  clear hkw hrd1 hb1 HL0 HB0
  go_wp2_with fail
  have hun := fun h2 => Undo_any A1 (some ⟨w.heap.size, 0, none⟩) c1 2 [9] [ex0, ex1] w1 (by decide) (by decide) HR1.out h2
  refine (hun HL1.out.rd).mono ?_
  rintro e w2 hr
  rw [ex_undo] at hr
  obtain ⟨A2, c2, rfl, hrd2, hb2⟩ := hr
  obtain ⟨g1, o1, rfl, hl1, hc1⟩ := HR1.out.at_ (by decide)
  have x1 : w2.cell? ⟨g1, o1, none⟩ = some (.int .u64 9) := by
    rw [hb2.cell (p := ⟨g1, o1, none⟩) hl1]; exact hc1 0 _ rfl
  obtain ⟨g2, o2, rfl, hl2, hc2⟩ := hrd2.at_ (by decide)
  have x2 : w2.cell? ⟨g2, o2, none⟩ = some (.int .u64 2) := hc2 0 _ rfl
  have hL2 := HL1.out.below hb2 HL1.out.lt
  have y0 : w2.cell? ⟨w.heap.size, 0, none⟩ = some (.int .i64 1) := hL2.cell rfl
  have y1 : w2.cell? ⟨w.heap.size, 1, none⟩ = some (.int .i64 3) := hL2.cell rfl
  have y2 : w2.cell? ⟨w.heap.size, 2, none⟩ = some (.int .i64 0) := hL2.cell rfl
  have y3 : w2.cell? ⟨w.heap.size, 3, none⟩ = some (.int .u64 2) := hL2.cell rfl
  have y4 : w2.cell? ⟨w.heap.size, 4, none⟩ = some (.int .u64 2) := hL2.cell rfl
  have y5 : w2.cell? ⟨w.heap.size, 5, none⟩ = some (.int .u64 9) := hL2.cell rfl
  have y6 : w2.cell? ⟨w.heap.size, 6, none⟩ = some (.bool true) := hL2.cell rfl
  have HL2 := Lib.hid hL2
  have HB2 := Lib.hid (HB1.out.trans (hb2.mono HB1.out.size))
  clear hc1 hc2 hL2 hb2 hrd2 hun HL1 HR1 HB1
  have HLN := Lib.hid (Line_any ex0 w2 ex_ok (HT.out.below HB2.out) (HZ.out.below HB2.out))
  rw [ex_line] at HLN
  go_wp2_with fail
  refine HLN.out.mono ?_
  rintro e w3 ⟨rfl, hb3⟩
  have HL3 := Lib.hid (HL2.out.below hb3 HL2.out.lt)
  have HB3 := Lib.hid (HB2.out.trans (hb3.mono HB2.out.size))
  have HCT := Lib.hid (Count_any (some ⟨w.heap.size, 0, none⟩) 2 [ex0, ex1] w3 (by decide) HL3.out.rd)
  rw [ex_cnt] at HCT
  clear hb3 HL2 HB2 HLN x1 x2 y0 y1 y2 y3 y4 y5 y6
  go_wp2_with fail
  refine HCT.out.mono ?_
  rintro e w4 ⟨rfl, hb4⟩
  have HL4 := Lib.hid (HL3.out.below hb4 HL3.out.lt)
  have HB4 := Lib.hid (HB3.out.trans (hb4.mono HB3.out.size))
  have HCG := Lib.hid (Changed_any (some ⟨w.heap.size, 0, none⟩) 2 [ex0, ex1] w4 (by decide) HL4.out.rd)
  rw [ex_chg] at HCG
  clear hb4 HL3 HB3 HCT
  go_wp2_with fail
  refine HCG.out.mono ?_
  rintro e w5 ⟨A5, c5, rfl, hr5, hb5⟩
  have HB5 := Lib.hid (HB4.out.trans (hb5.mono HB4.out.size))
  have HIN := Lib.hid (Ints_any A5 (some ⟨w5.heap.size, 0, none⟩) c5 1 [0] [0] (w5.alloc (.cells #[.int .i64 0] 3)) (by decide) (by decide) (hr5.alloc _) (int_blk1 w5 0))
  rw [show (([0] : List Int) == [0]) = true from rfl] at HIN
  have HB6 := Lib.hid (HB5.out.alloc HB5.out.size (.cells #[.int .i64 0] 3))
  clear hr5 hb5 HB4 HL4 HCG HB5
  go_wp2_with fail
  refine HIN.out.mono ?_
  rintro e w6 ⟨rfl, hb6⟩
  go_wp2
  go_ret
  exact ⟨rfl, HB6.out.trans (hb6.mono HB6.out.size)⟩

end Go.Proofs.YtiioedgdhkndgaaDoor
