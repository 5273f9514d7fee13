/- The example that each law of the accesses ends with. -/
import Derived.Test.YtmllbailfbjoeaaClash
import Derived.Test.YtmllbailfbjoeaaEq
namespace Go.Proofs.Ytmllbailfbjoeaa
open Go.RowKit Go.Sort

def exA : Acc := ⟨0, 2, 1, 0, 0, 4, true⟩
def exB : Acc := ⟨1, 1, 1, 0, 4, 4, true⟩
def exC : Acc := ⟨1, 2, 2, 0, 0, 0, true⟩
def exL : List Acc := [exA, exB, exC]

theorem ex_free1 : freeB exA exB = false := by decide
theorem ex_free2 : freeB exA exC = true := by decide
theorem ex_lv : lvs exL 3 = [0, 1, 2] := by decide
theorem ex_depth : depthS (lvs exL 3) = 3 := by decide
theorem ex_cls : cls exL 3 = 1 := by decide

theorem ex_rd (w : World) : Rd (w.alloc (.cells #[.int .i64 0, .int .i64 2, .int .i64 1, .int .u64 0, .int .u64 0, .int .u64 4, .bool true, .int .i64 1, .int .i64 1, .int .i64 1, .int .u64 0, .int .u64 4, .int .u64 4, .bool true, .int .i64 1, .int .i64 2, .int .i64 2, .int .u64 0, .int .u64 0, .int .u64 0, .bool true] 44)) (some ⟨w.heap.size, 0, none⟩) (accs exL) := by
  refine .inr ⟨w.heap.size, 0, rfl, by simp, fun k v hk => ?_⟩
  rw [World.cell?_alloc_at (hn := rfl), ← hk, Nat.zero_add]
  simp [accs, exL, exA, exB, exC, Acc.cells]

theorem ex_ints (w : World) : Rd (w.alloc (.cells #[.int .i64 0, .int .i64 1, .int .i64 2] 3)) (some ⟨w.heap.size, 0, none⟩) (ints [0, 1, 2]) := by
  refine .inr ⟨w.heap.size, 0, rfl, by simp, fun k v hk => ?_⟩
  rw [World.cell?_alloc_at (hn := rfl), ← hk, Nat.zero_add]
  simp [ints]

theorem ex_world (w W : World) (hW : W = ((((w.alloc (.cells #[.int .i64 0, .int .i64 2, .int .i64 1, .int .u64 0, .int .u64 0, .int .u64 4, .bool true] 44)).alloc (.cells #[.int .i64 1, .int .i64 1, .int .i64 1, .int .u64 0, .int .u64 4, .int .u64 4, .bool true] 44)).alloc (.cells #[.int .i64 1, .int .i64 2, .int .i64 2, .int .u64 0, .int .u64 0, .int .u64 0, .bool true] 44)).alloc (.cells #[.int .i64 0, .int .i64 2, .int .i64 1, .int .u64 0, .int .u64 0, .int .u64 4, .bool true, .int .i64 1, .int .i64 1, .int .i64 1, .int .u64 0, .int .u64 4, .int .u64 4, .bool true, .int .i64 1, .int .i64 2, .int .i64 2, .int .u64 0, .int .u64 0, .int .u64 0, .bool true] 44))) : Below w.heap.size w W ∧ W.heap.size = w.heap.size + 4 ∧ Rd W (some ⟨w.heap.size + 1 + 1 + 1, 0, none⟩) (accs exL) ∧ (∀ j v, exA.cells[j]? = some v → W.cell? ⟨w.heap.size, j, none⟩ = some v) ∧ (∀ j v, exC.cells[j]? = some v → W.cell? ⟨w.heap.size + 1 + 1, j, none⟩ = some v) := by
  subst hW
  refine ⟨(((Below.refl _ w).alloc (Nat.le_refl _) _).alloc (by simp) _).alloc (by simp; omega) _ |>.alloc (by simp; omega) _, by simp, ?_, fun j v hj => ?_, fun j v hj => ?_⟩
  · have h := ex_rd (((w.alloc (.cells #[.int .i64 0, .int .i64 2, .int .i64 1, .int .u64 0, .int .u64 0, .int .u64 4, .bool true] 44)).alloc (.cells #[.int .i64 1, .int .i64 1, .int .i64 1, .int .u64 0, .int .u64 4, .int .u64 4, .bool true] 44)).alloc (.cells #[.int .i64 1, .int .i64 2, .int .i64 2, .int .u64 0, .int .u64 0, .int .u64 0, .bool true] 44))
    simp only [World.size_alloc] at h
    exact h
  · rw [World.cell?_alloc_lt _ _ _ (by simp; omega), World.cell?_alloc_lt _ _ _ (by simp; omega), World.cell?_alloc_lt _ _ _ (by simp), World.cell?_alloc_at (hn := rfl), ← hj]
    simp [Acc.cells, exA]
  · rw [World.cell?_alloc_lt _ _ _ (by simp), World.cell?_alloc_at (hn := by simp), ← hj]
    simp [Acc.cells, exC]

set_option maxHeartbeats 4000000 in
set_option maxRecDepth 100000 in
theorem awake28_any (w : World) : Calls Try.prog 43 #[] w fun e w' => e = .returned (.bool true) ∧ Below w.heap.size w w' := by
  have HF1 := Lib.hid (Free_any exA exB)
  have HF2 := Lib.hid (Free_any exA exC)
  rw [ex_free1] at HF1
  rw [ex_free2] at HF2
  go_enter Try.func43, Try.ntmps43
  go_wp2_with fail
  obtain ⟨W, hW⟩ : ∃ W, W = ((((w.alloc (.cells #[.int .i64 0, .int .i64 2, .int .i64 1, .int .u64 0, .int .u64 0, .int .u64 4, .bool true] 44)).alloc (.cells #[.int .i64 1, .int .i64 1, .int .i64 1, .int .u64 0, .int .u64 4, .int .u64 4, .bool true] 44)).alloc (.cells #[.int .i64 1, .int .i64 2, .int .i64 2, .int .u64 0, .int .u64 0, .int .u64 0, .bool true] 44)).alloc (.cells #[.int .i64 0, .int .i64 2, .int .i64 1, .int .u64 0, .int .u64 0, .int .u64 4, .bool true, .int .i64 1, .int .i64 1, .int .i64 1, .int .u64 0, .int .u64 4, .int .u64 4, .bool true, .int .i64 1, .int .i64 2, .int .i64 2, .int .u64 0, .int .u64 0, .int .u64 0, .bool true] 44)) := ⟨_, rfl⟩
  rw [← hW]
  obtain ⟨hbW, hszW, hrdW, hAW, hCW⟩ := ex_world w W hW
  have HBW := Lib.hid hbW
  have HSZ := Lib.hid hszW
  have HRD := Lib.hid hrdW
  have HAW := Lib.hid hAW
  have HCW := Lib.hid hCW
  clear hW hbW hszW hrdW hAW hCW
  refine (HF1.out _).mono ?_
  rintro er w1 ⟨rfl, hb1⟩
  have ha : ∀ j v, exA.cells[j]? = some v → w1.cell? ⟨w.heap.size, j, none⟩ = some v := fun j v hj => by
    rw [hb1.cell (p := ⟨w.heap.size, j, none⟩) (by rw [HSZ.out]; show w.heap.size < _; omega)]; exact HAW.out j v hj
  have hc : ∀ j v, exC.cells[j]? = some v → w1.cell? ⟨w.heap.size + 1 + 1, j, none⟩ = some v := fun j v hj => by
    rw [hb1.cell (p := ⟨w.heap.size + 1 + 1, j, none⟩) (by rw [HSZ.out]; show w.heap.size + 1 + 1 < _; omega)]; exact HCW.out j v hj
  have a0 := ha 0 _ rfl
  have a1 := ha 1 _ rfl
  have a2 := ha 2 _ rfl
  have a3 := ha 3 _ rfl
  have a4 := ha 4 _ rfl
  have a5 := ha 5 _ rfl
  have a6 := ha 6 _ rfl
  have c0 := hc 0 _ rfl
  have c1 := hc 1 _ rfl
  have c2 := hc 2 _ rfl
  have c3 := hc 3 _ rfl
  have c4 := hc 4 _ rfl
  have c5 := hc 5 _ rfl
  have c6 := hc 6 _ rfl
  have HB1 := Lib.hid (HBW.out.trans (hb1.mono HBW.out.size))
  replace HRD := Lib.hid (HRD.out.below hb1)
  clear ha hc hb1 HBW HSZ HAW HCW
  go_wp2_with fail
  refine (HF2.out _).mono ?_
  rintro er w2 ⟨rfl, hb2⟩
  replace HB1 := Lib.hid (HB1.out.trans (hb2.mono HB1.out.size))
  replace HRD := Lib.hid (HRD.out.below hb2)
  clear hb2 a0 a1 a2 a3 a4 a5 a6 c0 c1 c2 c3 c4 c5 c6
  go_wp2_with fail
  refine (Levels_any _ 3 exL _ (by decide) (by decide) HRD.out).mono ?_
  rintro er w3 ⟨V, cv, rfl, hv, hb3⟩
  rw [show lvs exL exL.length = [0, 1, 2] from ex_lv] at hv ⊢
  replace HB1 := Lib.hid (HB1.out.trans (hb3.mono HB1.out.size))
  replace HRD := Lib.hid (HRD.out.below hb3)
  have HV := Lib.hid hv
  clear hb3 hv
  go_wp2_with fail
  refine (Ints_any V (some ⟨w3.heap.size, 0, none⟩) cv 3 [0, 1, 2] [0, 1, 2] _ (by decide) (by decide) (HV.out.alloc _) (ex_ints w3)).mono ?_
  rintro er w4 ⟨rfl, hb4⟩
  replace HB1 := Lib.hid ((HB1.out.alloc HB1.out.size _).trans (hb4.mono (Nat.le_trans HB1.out.size (by simp))))
  replace HRD := Lib.hid ((HRD.out.alloc _).below hb4)
  clear hb4
  go_wp2_with fail
  refine (Depth_any _ 3 exL _ (by decide) (by decide) HRD.out).mono ?_
  rintro er w5 ⟨rfl, hb5⟩
  rw [show depthS (lvs exL exL.length) = 3 from ex_depth]
  replace HB1 := Lib.hid (HB1.out.trans (hb5.mono HB1.out.size))
  replace HRD := Lib.hid (HRD.out.below hb5)
  clear hb5
  go_wp2_with fail
  refine (Clashes_any _ 3 exL _ (by decide) (by decide) HRD.out).mono ?_
  rintro er w6 ⟨rfl, hb6⟩
  rw [show cls exL exL.length = 1 from ex_cls]
  replace HB1 := Lib.hid (HB1.out.trans (hb6.mono HB1.out.size))
  clear hb6
  go_wp2
  go_ret
  exact ⟨rfl, HB1.out⟩

end Go.Proofs.Ytmllbailfbjoeaa
