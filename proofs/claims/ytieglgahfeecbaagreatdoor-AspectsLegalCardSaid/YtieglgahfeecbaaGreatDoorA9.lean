/- (what stood here lies in Gen) -/
import Derived.Test.YtieglgahfeecbaaGreatDoorA8
import Derived.Test.YtieglgahfeecbaaGreatDoorA1
import Derived.Test.YtieglgahfeecbaaGreatDoorA4
namespace Go.Proofs.YtieglgahfeecbaaGreatDoor
open Go.RowKit Go.Sort
attribute [local go_sem ↓] Go.wp_at_zero Go.wp_at_succ

def Reqr.p (q : Reqr) (l : List Cse) : ReqP := ⟨q.kind, q.arg, q.value, q.dflt, l⟩
theorem fapp_le (w1 : World) (W0 : World) (o : Obj) (h : Below W0.heap.size W0 w1) : Below W0.heap.size W0 (w1.alloc o) := h.alloc h.size o
theorem OwnClr.above {base : Nat} {w w' : World} {x : Clr} (h : OwnClr base w x) (hb : Below w.heap.size w w') : OwnClr base w' x := h.below hb

set_option maxHeartbeats 16000000 in
set_option maxRecDepth 100000 in
theorem fApply_any (x : Clr) (t seq : Int) (q : Reqr) (l : List Cse) (w : World) (hx : ClrAt w x) (hc1 : -1 ≤ x.cap) :
    Calls Tryz.prog 132 #[clrV x, .int .i64 t, .int .i64 seq, reqV q] w (RetClr (applyC false x.p t seq (q.p l)) w) := by
  obtain ⟨b0, b1, b2, hb3⟩ := box3 w 91 40 91 x.cells q.cells [.int .i64 0, .slice none 0 0, .slice none 0 0]
  have HY0 := Lib.hid b0
  have HY1 := Lib.hid b1
  have HY2 := Lib.hid b2
  have HBX := Lib.hid hb3
  have hfd := hx.fd
  have hfl := hx.fl
  have HC0 := Lib.hid (fun W (hb : Below w.heap.size w W) => fcopied_any x W (hx.below hb))
  have HVL : RowKit.Hid ((applyC false x.p t seq (q.p l)) = ⟨x.cap, (stpC false x.cap x.list (q.p l)).1, setR x.done t ⟨seq, 0, (stpC false x.cap x.list (q.p l)).2.1, (stpC false x.cap x.list (q.p l)).2.2⟩⟩) := Lib.hid rfl
  have HVS : RowKit.Hid (stpC false x.cap x.list (q.p l) = if q.kind = 8 then (if (x.list.length : Int) < x.cap then (x.list ++ [q.value], 0, 0) else (x.list, 10, 0))
    else if q.kind = 9 then (if x.list.length = 0 then (x.list, 10, 0) else (x.list.drop 1, 0, x.list.getD 0 0))
    else if q.kind = 5 then (x.list, 0, (x.list.length : Int)) else if q.kind = 6 then (x.list, 0, x.cap) else (x.list, 1, 0)) := Lib.hid rfl
  clear b0 b1 b2 hb3 hx
  generalize hG : applyC false x.p t seq (q.p l) = G at *
  clear hG
  obtain ⟨cap, LA, lc, li, DA, dc, dn⟩ := x
  simp only [Clr.cells, Reqr.cells] at HC0 HVL HVS hfd hfl HY0 HY1 HY2 HBX hc1
  unfold clrV reqV
  unfold clrV at HC0
  simp only at HC0 ⊢
  have hg2 : w.heap.size + 1 + 1 < (((w.alloc (.cells #[.int .i64 cap, .slice LA li.length lc, .slice DA dn.length dc] 91)).alloc (.cells #[.int .i64 q.kind, .int .i64 q.arg, .int .i64 q.value, .bool q.dflt, .slice q.A q.n q.c] 40)).alloc (.cells #[.int .i64 0, .slice none 0 0, .slice none 0 0] 91)).heap.size := HY2.out.lt
  have HCP := Lib.hid (HC0.out _ HBX.out)
  clear HC0

  have hno : (¬ q.kind = 8 ∧ ¬ q.kind = 9 ∧ ¬ q.kind = 5 ∧ ¬ q.kind = 6) → Calls Tryz.prog 132 #[.agg #[.int .i64 cap, .slice LA li.length lc, .slice DA dn.length dc], .int .i64 t, .int .i64 seq, .agg #[.int .i64 q.kind, .int .i64 q.arg, .int .i64 q.value, .bool q.dflt, .slice q.A q.n q.c]] w (RetClr G w) := by
    intro hyp
    have HS : RowKit.Hid (G = ⟨cap, li, setR dn t ⟨seq, 0, 1, 0⟩⟩) := Lib.hid (by rw [HVL.out, HVS.out]; rw [if_neg hyp.1, if_neg hyp.2.1, if_neg hyp.2.2.1, if_neg hyp.2.2.2])
    clear HVL HVS
    obtain ⟨k8, k9, k5, k6⟩ := hyp
    have e8 : (q.kind == 8) = false := by simp [k8]
    have e9 : (q.kind == 9) = false := by simp [k9]
    have e5 : (q.kind == 5) = false := by simp [k5]
    have e6 : (q.kind == 6) = false := by simp [k6]
    clear k8 k9 k5 k6
    go_enter Tryz.func132, Tryz.ntmps132
    go_upto_region 1 with fail
    generalize (((w.alloc (.cells #[.int .i64 cap, .slice LA li.length lc, .slice DA dn.length dc] 91)).alloc (.cells #[.int .i64 q.kind, .int .i64 q.arg, .int .i64 q.value, .bool q.dflt, .slice q.A q.n q.c] 40)).alloc (.cells #[.int .i64 0, .slice none 0 0, .slice none 0 0] 91)) = W0 at *
    obtain ⟨y0, y1, y2⟩ : W0.cell? ⟨w.heap.size, 0, none⟩ = some (.int .i64 cap) ∧ W0.cell? ⟨w.heap.size, 1, none⟩ = some (.slice LA li.length lc) ∧ W0.cell? ⟨w.heap.size, 2, none⟩ = some (.slice DA dn.length dc) := ⟨HY0.out.cell rfl, HY0.out.cell rfl, HY0.out.cell rfl⟩
    go_wp2_with (first
      | (refine HCP.out.mono ?_
         rintro er w1 ⟨⟨cap1, LA1, lc1, li1, DA1, dc1, dn1⟩, rfl, hp, how1, hb1⟩
         simp only [Clr.p, CellsP.mk.injEq] at hp
         obtain ⟨rfl, rfl, rfl⟩ := hp
         unfold clrV
         simp only
         have HO1 := Lib.hid how1
         have HB1 := Lib.hid hb1
         have HR1 := Lib.hid (HY1.out.below hb1 HY1.out.lt)
         obtain ⟨q0, q1, q2, q3, q4⟩ := reqBox (q := q) HR1.out
         have hlt1 : w.heap.size + 1 < w1.heap.size := HR1.out.lt
         clear how1 hb1)
      | (refine (ftold_any W0.heap.size ⟨cap1, LA1, lc1, li1, DA1, dc1, dn1⟩ t seq _ _ _ ?_ ?_ hfd).mono ?_
         · exact Nat.le_trans HB1.out.size (by simp)
         · exact HO1.out.below ((Below.refl _ _).alloc (Nat.le_refl _) _)
         rintro er w2 ⟨rfl, how2, hb2⟩
         have HO2 := Lib.hid how2
         have HB2 : RowKit.Hid (Below W0.heap.size W0 w2) := Lib.hid ((HB1.out.alloc HB1.out.size _).trans hb2)
         have HH := Lib.hid (HY2.out.below HB2.out HY2.out.lt)
         clear how2 hb2
         have e0 := HH.out.cell (i := 0) rfl
         have ze0 := HH.out.frozen 0
         have e1 := HH.out.cell (i := 1) rfl
         have ze1 := HH.out.frozen 1
         have e2 := HH.out.cell (i := 2) rfl
         have ze2 := HH.out.frozen 2
         unfold clrV
         simp only))
    refine bodyPost_ret (v := clrV ⟨cap1, LA1, lc1, li1, DA1, dc1, setR dn1 t ⟨seq, 0, 1, 0⟩⟩) (ret_cell (g := w.heap.size + 1 + 1) rfl rfl (clr_load (x := ⟨cap1, LA1, lc1, li1, DA1, dc1, setR dn1 t ⟨seq, 0, 1, 0⟩⟩) (put3 HH.out) (by simp only [Clr.cells]))) rfl ?_
    exact ⟨_, rfl, by rw [HS.out]; rfl, (OwnClr.mk (own_put3 HO2.out.l HH.out (by decide)) (own_put3 HO2.out.d HH.out (by decide))).lower (by omega), below3 (HBX.out.trans (HB2.out.mono HBX.out.size)) (by omega)⟩

  have hful : (q.kind = 8 ∧ ¬ (li.length : Int) < cap) → Calls Tryz.prog 132 #[.agg #[.int .i64 cap, .slice LA li.length lc, .slice DA dn.length dc], .int .i64 t, .int .i64 seq, .agg #[.int .i64 q.kind, .int .i64 q.arg, .int .i64 q.value, .bool q.dflt, .slice q.A q.n q.c]] w (RetClr G w) := by
    intro hyp
    have HS : RowKit.Hid (G = ⟨cap, li, setR dn t ⟨seq, 0, 10, 0⟩⟩) := Lib.hid (by rw [HVL.out, HVS.out]; rw [if_pos hyp.1, if_neg hyp.2])
    clear HVL HVS
    obtain ⟨k8, hle⟩ := hyp
    have hle : cap ≤ (li.length : Int) := by omega
    have e8 : (q.kind == 8) = true := by simp [k8]
    clear k8
    go_enter Tryz.func132, Tryz.ntmps132
    go_upto_region 1 with fail
    generalize (((w.alloc (.cells #[.int .i64 cap, .slice LA li.length lc, .slice DA dn.length dc] 91)).alloc (.cells #[.int .i64 q.kind, .int .i64 q.arg, .int .i64 q.value, .bool q.dflt, .slice q.A q.n q.c] 40)).alloc (.cells #[.int .i64 0, .slice none 0 0, .slice none 0 0] 91)) = W0 at *
    obtain ⟨y0, y1, y2⟩ : W0.cell? ⟨w.heap.size, 0, none⟩ = some (.int .i64 cap) ∧ W0.cell? ⟨w.heap.size, 1, none⟩ = some (.slice LA li.length lc) ∧ W0.cell? ⟨w.heap.size, 2, none⟩ = some (.slice DA dn.length dc) := ⟨HY0.out.cell rfl, HY0.out.cell rfl, HY0.out.cell rfl⟩
    go_wp2_with (first
      | (refine HCP.out.mono ?_
         rintro er w1 ⟨⟨cap1, LA1, lc1, li1, DA1, dc1, dn1⟩, rfl, hp, how1, hb1⟩
         simp only [Clr.p, CellsP.mk.injEq] at hp
         obtain ⟨rfl, rfl, rfl⟩ := hp
         unfold clrV
         simp only
         have HO1 := Lib.hid how1
         have HB1 := Lib.hid hb1
         have HR1 := Lib.hid (HY1.out.below hb1 HY1.out.lt)
         obtain ⟨q0, q1, q2, q3, q4⟩ := reqBox (q := q) HR1.out
         have hlt1 : w.heap.size + 1 < w1.heap.size := HR1.out.lt
         clear how1 hb1)
      | (refine (ftold_any W0.heap.size ⟨cap1, LA1, lc1, li1, DA1, dc1, dn1⟩ t seq _ _ _ ?_ ?_ hfd).mono ?_
         · exact Nat.le_trans HB1.out.size (by simp)
         · exact HO1.out.below ((Below.refl _ _).alloc (Nat.le_refl _) _)
         rintro er w2 ⟨rfl, how2, hb2⟩
         have HO2 := Lib.hid how2
         have HB2 : RowKit.Hid (Below W0.heap.size W0 w2) := Lib.hid ((HB1.out.alloc HB1.out.size _).trans hb2)
         have HH := Lib.hid (HY2.out.below HB2.out HY2.out.lt)
         clear how2 hb2
         have e0 := HH.out.cell (i := 0) rfl
         have ze0 := HH.out.frozen 0
         have e1 := HH.out.cell (i := 1) rfl
         have ze1 := HH.out.frozen 1
         have e2 := HH.out.cell (i := 2) rfl
         have ze2 := HH.out.frozen 2
         unfold clrV
         simp only))
    refine bodyPost_ret (v := clrV ⟨cap1, LA1, lc1, li1, DA1, dc1, setR dn1 t ⟨seq, 0, 10, 0⟩⟩) (ret_cell (g := w.heap.size + 1 + 1) rfl rfl (clr_load (x := ⟨cap1, LA1, lc1, li1, DA1, dc1, setR dn1 t ⟨seq, 0, 10, 0⟩⟩) (put3 HH.out) (by simp only [Clr.cells]))) rfl ?_
    exact ⟨_, rfl, by rw [HS.out]; rfl, (OwnClr.mk (own_put3 HO2.out.l HH.out (by decide)) (own_put3 HO2.out.d HH.out (by decide))).lower (by omega), below3 (HBX.out.trans (HB2.out.mono HBX.out.size)) (by omega)⟩

  have hemp : (q.kind = 9 ∧ li.length = 0) → Calls Tryz.prog 132 #[.agg #[.int .i64 cap, .slice LA li.length lc, .slice DA dn.length dc], .int .i64 t, .int .i64 seq, .agg #[.int .i64 q.kind, .int .i64 q.arg, .int .i64 q.value, .bool q.dflt, .slice q.A q.n q.c]] w (RetClr G w) := by
    intro hyp
    have HS : RowKit.Hid (G = ⟨cap, li, setR dn t ⟨seq, 0, 10, 0⟩⟩) := Lib.hid (by rw [HVL.out, HVS.out]; rw [if_neg (by rw [hyp.1]; decide), if_pos hyp.1, if_pos hyp.2])
    clear HVL HVS
    obtain ⟨k9, hle0⟩ := hyp
    have hle : ((li.length : Int) == 0) = true := by simp only [beq_iff_eq]; omega
    have k8 : ¬ q.kind = 8 := by omega
    have e8 : (q.kind == 8) = false := by simp [k8]
    have e9 : (q.kind == 9) = true := by simp [k9]
    clear k8 k9 hle0
    go_enter Tryz.func132, Tryz.ntmps132
    go_upto_region 1 with fail
    generalize (((w.alloc (.cells #[.int .i64 cap, .slice LA li.length lc, .slice DA dn.length dc] 91)).alloc (.cells #[.int .i64 q.kind, .int .i64 q.arg, .int .i64 q.value, .bool q.dflt, .slice q.A q.n q.c] 40)).alloc (.cells #[.int .i64 0, .slice none 0 0, .slice none 0 0] 91)) = W0 at *
    obtain ⟨y0, y1, y2⟩ : W0.cell? ⟨w.heap.size, 0, none⟩ = some (.int .i64 cap) ∧ W0.cell? ⟨w.heap.size, 1, none⟩ = some (.slice LA li.length lc) ∧ W0.cell? ⟨w.heap.size, 2, none⟩ = some (.slice DA dn.length dc) := ⟨HY0.out.cell rfl, HY0.out.cell rfl, HY0.out.cell rfl⟩
    go_wp2_with (first
      | (refine HCP.out.mono ?_
         rintro er w1 ⟨⟨cap1, LA1, lc1, li1, DA1, dc1, dn1⟩, rfl, hp, how1, hb1⟩
         simp only [Clr.p, CellsP.mk.injEq] at hp
         obtain ⟨rfl, rfl, rfl⟩ := hp
         unfold clrV
         simp only
         have HO1 := Lib.hid how1
         have HB1 := Lib.hid hb1
         have HR1 := Lib.hid (HY1.out.below hb1 HY1.out.lt)
         obtain ⟨q0, q1, q2, q3, q4⟩ := reqBox (q := q) HR1.out
         have hlt1 : w.heap.size + 1 < w1.heap.size := HR1.out.lt
         clear how1 hb1)
      | (refine (ftold_any W0.heap.size ⟨cap1, LA1, lc1, li1, DA1, dc1, dn1⟩ t seq _ _ _ ?_ ?_ hfd).mono ?_
         · exact Nat.le_trans HB1.out.size (by simp)
         · exact HO1.out.below ((Below.refl _ _).alloc (Nat.le_refl _) _)
         rintro er w2 ⟨rfl, how2, hb2⟩
         have HO2 := Lib.hid how2
         have HB2 : RowKit.Hid (Below W0.heap.size W0 w2) := Lib.hid ((HB1.out.alloc HB1.out.size _).trans hb2)
         have HH := Lib.hid (HY2.out.below HB2.out HY2.out.lt)
         clear how2 hb2
         have e0 := HH.out.cell (i := 0) rfl
         have ze0 := HH.out.frozen 0
         have e1 := HH.out.cell (i := 1) rfl
         have ze1 := HH.out.frozen 1
         have e2 := HH.out.cell (i := 2) rfl
         have ze2 := HH.out.frozen 2
         unfold clrV
         simp only))
    refine bodyPost_ret (v := clrV ⟨cap1, LA1, lc1, li1, DA1, dc1, setR dn1 t ⟨seq, 0, 10, 0⟩⟩) (ret_cell (g := w.heap.size + 1 + 1) rfl rfl (clr_load (x := ⟨cap1, LA1, lc1, li1, DA1, dc1, setR dn1 t ⟨seq, 0, 10, 0⟩⟩) (put3 HH.out) (by simp only [Clr.cells]))) rfl ?_
    exact ⟨_, rfl, by rw [HS.out]; rfl, (OwnClr.mk (own_put3 HO2.out.l HH.out (by decide)) (own_put3 HO2.out.d HH.out (by decide))).lower (by omega), below3 (HBX.out.trans (HB2.out.mono HBX.out.size)) (by omega)⟩

  have hlen : (q.kind = 5) → Calls Tryz.prog 132 #[.agg #[.int .i64 cap, .slice LA li.length lc, .slice DA dn.length dc], .int .i64 t, .int .i64 seq, .agg #[.int .i64 q.kind, .int .i64 q.arg, .int .i64 q.value, .bool q.dflt, .slice q.A q.n q.c]] w (RetClr G w) := by
    intro hyp
    have HS : RowKit.Hid (G = ⟨cap, li, setR dn t ⟨seq, 0, 0, (li.length : Int)⟩⟩) := Lib.hid (by rw [HVL.out, HVS.out]; rw [if_neg (by rw [hyp]; decide), if_neg (by rw [hyp]; decide), if_pos hyp])
    clear HVL HVS
    have k5 := hyp
    have k8 : ¬ q.kind = 8 := by omega
    have k9 : ¬ q.kind = 9 := by omega
    have e8 : (q.kind == 8) = false := by simp [k8]
    have e9 : (q.kind == 9) = false := by simp [k9]
    have e5 : (q.kind == 5) = true := by simp [k5]
    clear k8 k9 k5 hyp
    go_enter Tryz.func132, Tryz.ntmps132
    go_upto_region 1 with fail
    generalize (((w.alloc (.cells #[.int .i64 cap, .slice LA li.length lc, .slice DA dn.length dc] 91)).alloc (.cells #[.int .i64 q.kind, .int .i64 q.arg, .int .i64 q.value, .bool q.dflt, .slice q.A q.n q.c] 40)).alloc (.cells #[.int .i64 0, .slice none 0 0, .slice none 0 0] 91)) = W0 at *
    obtain ⟨y0, y1, y2⟩ : W0.cell? ⟨w.heap.size, 0, none⟩ = some (.int .i64 cap) ∧ W0.cell? ⟨w.heap.size, 1, none⟩ = some (.slice LA li.length lc) ∧ W0.cell? ⟨w.heap.size, 2, none⟩ = some (.slice DA dn.length dc) := ⟨HY0.out.cell rfl, HY0.out.cell rfl, HY0.out.cell rfl⟩
    go_wp2_with (first
      | (refine HCP.out.mono ?_
         rintro er w1 ⟨⟨cap1, LA1, lc1, li1, DA1, dc1, dn1⟩, rfl, hp, how1, hb1⟩
         simp only [Clr.p, CellsP.mk.injEq] at hp
         obtain ⟨rfl, rfl, rfl⟩ := hp
         unfold clrV
         simp only
         have HO1 := Lib.hid how1
         have HB1 := Lib.hid hb1
         have HR1 := Lib.hid (HY1.out.below hb1 HY1.out.lt)
         obtain ⟨q0, q1, q2, q3, q4⟩ := reqBox (q := q) HR1.out
         have hlt1 : w.heap.size + 1 < w1.heap.size := HR1.out.lt
         clear how1 hb1)
      | (refine (ftold_any W0.heap.size ⟨cap1, LA1, lc1, li1, DA1, dc1, dn1⟩ t seq _ _ _ ?_ ?_ hfd).mono ?_
         · exact Nat.le_trans HB1.out.size (by simp)
         · exact HO1.out.below ((Below.refl _ _).alloc (Nat.le_refl _) _)
         rintro er w2 ⟨rfl, how2, hb2⟩
         have HO2 := Lib.hid how2
         have HB2 : RowKit.Hid (Below W0.heap.size W0 w2) := Lib.hid ((HB1.out.alloc HB1.out.size _).trans hb2)
         have HH := Lib.hid (HY2.out.below HB2.out HY2.out.lt)
         clear how2 hb2
         have e0 := HH.out.cell (i := 0) rfl
         have ze0 := HH.out.frozen 0
         have e1 := HH.out.cell (i := 1) rfl
         have ze1 := HH.out.frozen 1
         have e2 := HH.out.cell (i := 2) rfl
         have ze2 := HH.out.frozen 2
         unfold clrV
         simp only))
    refine bodyPost_ret (v := clrV ⟨cap1, LA1, lc1, li1, DA1, dc1, setR dn1 t ⟨seq, 0, 0, (li1.length : Int)⟩⟩) (ret_cell (g := w.heap.size + 1 + 1) rfl rfl (clr_load (x := ⟨cap1, LA1, lc1, li1, DA1, dc1, setR dn1 t ⟨seq, 0, 0, (li1.length : Int)⟩⟩) (put3 HH.out) (by simp only [Clr.cells]))) rfl ?_
    exact ⟨_, rfl, by rw [HS.out]; rfl, (OwnClr.mk (own_put3 HO2.out.l HH.out (by decide)) (own_put3 HO2.out.d HH.out (by decide))).lower (by omega), below3 (HBX.out.trans (HB2.out.mono HBX.out.size)) (by omega)⟩

  have hcap : (q.kind = 6) → Calls Tryz.prog 132 #[.agg #[.int .i64 cap, .slice LA li.length lc, .slice DA dn.length dc], .int .i64 t, .int .i64 seq, .agg #[.int .i64 q.kind, .int .i64 q.arg, .int .i64 q.value, .bool q.dflt, .slice q.A q.n q.c]] w (RetClr G w) := by
    intro hyp
    have HS : RowKit.Hid (G = ⟨cap, li, setR dn t ⟨seq, 0, 0, cap⟩⟩) := Lib.hid (by rw [HVL.out, HVS.out]; rw [if_neg (by rw [hyp]; decide), if_neg (by rw [hyp]; decide), if_neg (by rw [hyp]; decide), if_pos hyp])
    clear HVL HVS
    have k6 := hyp
    have k8 : ¬ q.kind = 8 := by omega
    have k9 : ¬ q.kind = 9 := by omega
    have k5 : ¬ q.kind = 5 := by omega
    have e8 : (q.kind == 8) = false := by simp [k8]
    have e9 : (q.kind == 9) = false := by simp [k9]
    have e5 : (q.kind == 5) = false := by simp [k5]
    have e6 : (q.kind == 6) = true := by simp [k6]
    clear k8 k9 k5 k6 hyp
    go_enter Tryz.func132, Tryz.ntmps132
    go_upto_region 1 with fail
    generalize (((w.alloc (.cells #[.int .i64 cap, .slice LA li.length lc, .slice DA dn.length dc] 91)).alloc (.cells #[.int .i64 q.kind, .int .i64 q.arg, .int .i64 q.value, .bool q.dflt, .slice q.A q.n q.c] 40)).alloc (.cells #[.int .i64 0, .slice none 0 0, .slice none 0 0] 91)) = W0 at *
    obtain ⟨y0, y1, y2⟩ : W0.cell? ⟨w.heap.size, 0, none⟩ = some (.int .i64 cap) ∧ W0.cell? ⟨w.heap.size, 1, none⟩ = some (.slice LA li.length lc) ∧ W0.cell? ⟨w.heap.size, 2, none⟩ = some (.slice DA dn.length dc) := ⟨HY0.out.cell rfl, HY0.out.cell rfl, HY0.out.cell rfl⟩
    go_wp2_with (first
      | (refine HCP.out.mono ?_
         rintro er w1 ⟨⟨cap1, LA1, lc1, li1, DA1, dc1, dn1⟩, rfl, hp, how1, hb1⟩
         simp only [Clr.p, CellsP.mk.injEq] at hp
         obtain ⟨rfl, rfl, rfl⟩ := hp
         unfold clrV
         simp only
         have HO1 := Lib.hid how1
         have HB1 := Lib.hid hb1
         have HR1 := Lib.hid (HY1.out.below hb1 HY1.out.lt)
         obtain ⟨q0, q1, q2, q3, q4⟩ := reqBox (q := q) HR1.out
         have hlt1 : w.heap.size + 1 < w1.heap.size := HR1.out.lt
         clear how1 hb1)
      | (refine (ftold_any W0.heap.size ⟨cap1, LA1, lc1, li1, DA1, dc1, dn1⟩ t seq _ _ _ ?_ ?_ hfd).mono ?_
         · exact Nat.le_trans HB1.out.size (by simp)
         · exact HO1.out.below ((Below.refl _ _).alloc (Nat.le_refl _) _)
         rintro er w2 ⟨rfl, how2, hb2⟩
         have HO2 := Lib.hid how2
         have HB2 : RowKit.Hid (Below W0.heap.size W0 w2) := Lib.hid ((HB1.out.alloc HB1.out.size _).trans hb2)
         have HH := Lib.hid (HY2.out.below HB2.out HY2.out.lt)
         clear how2 hb2
         have e0 := HH.out.cell (i := 0) rfl
         have ze0 := HH.out.frozen 0
         have e1 := HH.out.cell (i := 1) rfl
         have ze1 := HH.out.frozen 1
         have e2 := HH.out.cell (i := 2) rfl
         have ze2 := HH.out.frozen 2
         unfold clrV
         simp only))
    refine bodyPost_ret (v := clrV ⟨cap1, LA1, lc1, li1, DA1, dc1, setR dn1 t ⟨seq, 0, 0, cap1⟩⟩) (ret_cell (g := w.heap.size + 1 + 1) rfl rfl (clr_load (x := ⟨cap1, LA1, lc1, li1, DA1, dc1, setR dn1 t ⟨seq, 0, 0, cap1⟩⟩) (put3 HH.out) (by simp only [Clr.cells]))) rfl ?_
    exact ⟨_, rfl, by rw [HS.out]; rfl, (OwnClr.mk (own_put3 HO2.out.l HH.out (by decide)) (own_put3 HO2.out.d HH.out (by decide))).lower (by omega), below3 (HBX.out.trans (HB2.out.mono HBX.out.size)) (by omega)⟩

  have hput : (q.kind = 8 ∧ (li.length : Int) < cap) → Calls Tryz.prog 132 #[.agg #[.int .i64 cap, .slice LA li.length lc, .slice DA dn.length dc], .int .i64 t, .int .i64 seq, .agg #[.int .i64 q.kind, .int .i64 q.arg, .int .i64 q.value, .bool q.dflt, .slice q.A q.n q.c]] w (RetClr G w) := by
    intro hyp
    have HS : RowKit.Hid (G = ⟨cap, li ++ [q.value], setR dn t ⟨seq, 0, 0, 0⟩⟩) := Lib.hid (by rw [HVL.out, HVS.out]; rw [if_pos hyp.1, if_pos hyp.2])
    clear HVL HVS
    obtain ⟨k8, hle⟩ := hyp
    have e8 : (q.kind == 8) = true := by simp [k8]
    clear k8
    go_enter Tryz.func132, Tryz.ntmps132
    go_upto_region 1 with fail
    generalize (((w.alloc (.cells #[.int .i64 cap, .slice LA li.length lc, .slice DA dn.length dc] 91)).alloc (.cells #[.int .i64 q.kind, .int .i64 q.arg, .int .i64 q.value, .bool q.dflt, .slice q.A q.n q.c] 40)).alloc (.cells #[.int .i64 0, .slice none 0 0, .slice none 0 0] 91)) = W0 at *
    obtain ⟨y0, y1, y2⟩ : W0.cell? ⟨w.heap.size, 0, none⟩ = some (.int .i64 cap) ∧ W0.cell? ⟨w.heap.size, 1, none⟩ = some (.slice LA li.length lc) ∧ W0.cell? ⟨w.heap.size, 2, none⟩ = some (.slice DA dn.length dc) := ⟨HY0.out.cell rfl, HY0.out.cell rfl, HY0.out.cell rfl⟩
    go_wp2_with (first
      | (refine HCP.out.mono ?_
         rintro er w1 ⟨⟨cap1, LA1, lc1, li1, DA1, dc1, dn1⟩, rfl, hp, how1, hb1⟩
         simp only [Clr.p, CellsP.mk.injEq] at hp
         obtain ⟨rfl, rfl, rfl⟩ := hp
         unfold clrV
         simp only
         have HO1 := Lib.hid how1
         have HB1 := Lib.hid hb1
         have HR1 := Lib.hid (HY1.out.below hb1 HY1.out.lt)
         obtain ⟨q0, q1, q2, q3, q4⟩ := reqBox (q := q) HR1.out
         have hlt1 : w.heap.size + 1 < w1.heap.size := HR1.out.lt
         clear how1 hb1)
      | (at_builtin
         refine wpList_app rfl (.tmp 28) (.tmp 31) 22 3 rfl W0.heap.size (.int .i64 0) 1 8 Tryz.underlying22 int_info rfl (by decide) LA1 li1.length lc1 (ints li1) rfl (own_below HO1.out.l (below_two _ _ _)) (some ⟨w1.heap.size + 1, 0, none⟩) 1 1 (ints [q.value]) rfl (by simp) rfl (blk_new (by simp)).rd (ints_one _) (li1.length + 1) rfl (ints (li1 ++ [q.value])) (by simp [ints]) (by unfold maxLen; omega) (by omega) (Nat.le_trans HB1.out.size (by simp; omega)) ?_
         intro LA2 lc2 w3 hown3 hg3 hb3
         have HBO := Lib.hid (blk_grown (Blk.alloc (Blk.new w1 91 [.int .i64 cap1, .slice LA1 li1.length lc1, .slice DA1 dn1.length dc1]) (.cells #[.int .i64 q.value] 3)) hg3 (fun he => by have := own_in HO1.out.l _ he.symm; omega))
         have HDX := Lib.hid (own_grown_ty (own_below HO1.out.d (below_two _ _ _)) (own_below HO1.out.l (below_two _ _ _)) (by decide) hg3)
         have HB3 := Lib.hid (((HB1.out.alloc HB1.out.size _).alloc (Nat.le_trans HB1.out.size (by simp)) _).trans hb3)
         have HL0 := Lib.hid hown3
         have y3 := HBO.out.cell (i := 0) rfl
         have y4 := HBO.out.cell (i := 1) rfl
         have zy4 := HBO.out.frozen 1
         have y5 := HBO.out.cell (i := 2) rfl
         have HN3 := Lib.hid (show W0.heap.size ≤ w1.heap.size from HB1.out.size)
         clear hown3 hg3 hb3)
      | (have HB4 := Lib.hid (HB3.out.setCell (p := ⟨w1.heap.size, 1, none⟩) HN3.out (.slice LA2 (li1.length + 1) lc2))
         have HL3 := Lib.hid (own_ty HL0.out HBO.out (by decide) 1 (.slice LA2 (li1.length + 1) lc2))
         have HD3 := Lib.hid (own_ty HDX.out HBO.out (by decide) 1 (.slice LA2 (li1.length + 1) lc2))
         have el : (li1 ++ [q.value]).length = li1.length + 1 := by simp
         rw [← el] at HL3 HB4 HD3 ⊢
         refine (ftold_any W0.heap.size ⟨cap1, LA2, lc2, li1 ++ [q.value], DA1, dc1, dn1⟩ t seq _ _ _ ?_ ?_ hfd).mono ?_
         · exact HB4.out.size
         · exact ⟨HL3.out, HD3.out⟩
         rintro er w2 ⟨rfl, how2, hb2⟩
         have HO2 := Lib.hid how2
         have HB2 : RowKit.Hid (Below W0.heap.size W0 w2) := Lib.hid (HB4.out.trans hb2)
         have HH := Lib.hid (HY2.out.below HB2.out HY2.out.lt)
         clear how2 hb2
         have e0 := HH.out.cell (i := 0) rfl
         have ze0 := HH.out.frozen 0
         have e1 := HH.out.cell (i := 1) rfl
         have ze1 := HH.out.frozen 1
         have e2 := HH.out.cell (i := 2) rfl
         have ze2 := HH.out.frozen 2
         unfold clrV
         simp only))
    refine bodyPost_ret (v := clrV ⟨cap1, LA2, lc2, li1 ++ [q.value], DA1, dc1, setR dn1 t ⟨seq, 0, 0, 0⟩⟩) (ret_cell (g := w.heap.size + 1 + 1) rfl rfl (clr_load (x := ⟨cap1, LA2, lc2, li1 ++ [q.value], DA1, dc1, setR dn1 t ⟨seq, 0, 0, 0⟩⟩) (put3 HH.out) (by simp [Clr.cells]))) rfl ?_
    exact ⟨_, rfl, by rw [HS.out]; rfl, (OwnClr.mk (own_put3 HO2.out.l HH.out (by decide)) (own_put3 HO2.out.d HH.out (by decide))).lower (by omega), below3 (HBX.out.trans (HB2.out.mono HBX.out.size)) (by omega)⟩

  have htak : (q.kind = 9 ∧ 0 < li.length) → Calls Tryz.prog 132 #[.agg #[.int .i64 cap, .slice LA li.length lc, .slice DA dn.length dc], .int .i64 t, .int .i64 seq, .agg #[.int .i64 q.kind, .int .i64 q.arg, .int .i64 q.value, .bool q.dflt, .slice q.A q.n q.c]] w (RetClr G w) := by
    intro hyp
    have HS : RowKit.Hid (G = ⟨cap, li.drop 1, setR dn t ⟨seq, 0, 0, li.getD 0 0⟩⟩) := Lib.hid (by rw [HVL.out, HVS.out]; rw [if_neg (by rw [hyp.1]; decide), if_pos hyp.1, if_neg (by omega)])
    clear HVL HVS
    obtain ⟨k9, hle0⟩ := hyp
    have hle : ((li.length : Int) == 0) = false := by simp only [beq_eq_false_iff_ne, ne_eq]; omega
    have k8 : ¬ q.kind = 8 := by omega
    have e8 : (q.kind == 8) = false := by simp [k8]
    have e9 : (q.kind == 9) = true := by simp [k9]
    clear k8 k9
    have h0 : (0 : Int) < (li.length : Int) := by omega
    have h1 : (1 : Int) ≤ (li.length : Int) := by omega
    go_enter Tryz.func132, Tryz.ntmps132
    go_upto_region 1 with fail
    generalize (((w.alloc (.cells #[.int .i64 cap, .slice LA li.length lc, .slice DA dn.length dc] 91)).alloc (.cells #[.int .i64 q.kind, .int .i64 q.arg, .int .i64 q.value, .bool q.dflt, .slice q.A q.n q.c] 40)).alloc (.cells #[.int .i64 0, .slice none 0 0, .slice none 0 0] 91)) = W0 at *
    obtain ⟨y0, y1, y2⟩ : W0.cell? ⟨w.heap.size, 0, none⟩ = some (.int .i64 cap) ∧ W0.cell? ⟨w.heap.size, 1, none⟩ = some (.slice LA li.length lc) ∧ W0.cell? ⟨w.heap.size, 2, none⟩ = some (.slice DA dn.length dc) := ⟨HY0.out.cell rfl, HY0.out.cell rfl, HY0.out.cell rfl⟩
    go_wp2_with (first
      | (refine HCP.out.mono ?_
         rintro er w1 ⟨⟨cap1, LA1, lc1, li1, DA1, dc1, dn1⟩, rfl, hp, how1, hb1⟩
         simp only [Clr.p, CellsP.mk.injEq] at hp
         obtain ⟨rfl, rfl, rfl⟩ := hp
         unfold clrV
         simp only
         have HO1 := Lib.hid how1
         have HB1 := Lib.hid hb1
         have HR1 := Lib.hid (HY1.out.below hb1 HY1.out.lt)
         obtain ⟨q0, q1, q2, q3, q4⟩ := reqBox (q := q) HR1.out
         have hlt1 : w.heap.size + 1 < w1.heap.size := HR1.out.lt
         obtain ⟨gl, hgl, hgl1, hgl2⟩ := own_some how1.l hle0
         simp only at hgl
         subst hgl
         have hcp : li1.length ≤ lc1 := own_le how1.l
         have hcp1 : (li1.length : Int) ≤ (lc1 : Int) := by omega
         have u0 := own_cellAt how1.l 0 _ (ints_at hle0)
         simp only [Nat.add_zero] at u0
         generalize hv0 : li1.getD 0 0 = v0 at u0
         have HV0 := Lib.hid hv0
         clear hv0
         have HRD1 : RowKit.Hid (Rd w1 (some ⟨gl, 0 + 1, none⟩) (ints (li1.drop 1))) := Lib.hid (.inr ⟨gl, 0 + 1, rfl, hgl2, fun k v hk => by
           have e : ints (li1.drop 1) = (ints li1).drop 1 := by simp [ints]
           rw [e, List.getElem?_drop] at hk
           have := own_cellAt how1.l (1 + k) v hk
           rwa [← Nat.add_assoc] at this⟩)
         clear how1 hb1)
      | (refine (CloneI_any _ (li1.length - 1) _ (ints (li1.drop 1)) _ (by omega) (by rw [ints_length, List.length_drop]; omega) (ints_one _) (by first | exact HRD1.out.below ((Below.refl _ _).alloc (Nat.le_refl _) _) | exact .inl (List.eq_nil_of_length_eq_zero (by rw [ints_length, List.length_drop]; omega)))).mono ?_
         rintro er w6 ⟨LA2, lc2, rfl, how6, hb6⟩
         have HBO := Lib.hid ((Blk.new w1 91 [.int .i64 cap1, .slice (some ⟨gl, 0, none⟩) li1.length _, .slice DA1 dn1.length dc1]).below hb6 (lt_alloc _ _))
         have HL0 := Lib.hid (own_lower how6 (show W0.heap.size ≤ _ from Nat.le_trans HB1.out.size (Nat.le_of_lt (lt_alloc _ _))))
         have HDX := Lib.hid (own_below (own_below HO1.out.d ((Below.refl _ _).alloc (Nat.le_refl _) _)) hb6)
         have HB3 := Lib.hid ((HB1.out.alloc HB1.out.size _).trans (hb6.mono (Nat.le_trans HB1.out.size (Nat.le_of_lt (lt_alloc _ _)))))
         have y3 := HBO.out.cell (i := 0) rfl
         have y4 := HBO.out.cell (i := 1) rfl
         have zy4 := HBO.out.frozen 1
         have y5 := HBO.out.cell (i := 2) rfl
         have HN3 := Lib.hid (show W0.heap.size ≤ w1.heap.size from HB1.out.size)
         clear how6 hb6)
      | (have HB4 := Lib.hid (HB3.out.setCell (p := ⟨w1.heap.size, 1, none⟩) HN3.out (.slice LA2 (li1.length - 1) lc2))
         have HL3 := Lib.hid (own_ty HL0.out HBO.out (by decide) 1 (.slice LA2 (li1.length - 1) lc2))
         have HD3 := Lib.hid (own_ty HDX.out HBO.out (by decide) 1 (.slice LA2 (li1.length - 1) lc2))
         have el : (li1.drop 1).length = li1.length - 1 := by simp
         rw [← el] at HL3 HB4 HD3 ⊢
         refine (ftold_any W0.heap.size ⟨cap1, LA2, lc2, li1.drop 1, DA1, dc1, dn1⟩ t seq _ _ _ ?_ ?_ hfd).mono ?_
         · exact HB4.out.size
         · exact ⟨HL3.out, HD3.out⟩
         rintro er w2 ⟨rfl, how2, hb2⟩
         have HO2 := Lib.hid how2
         have HB2 : RowKit.Hid (Below W0.heap.size W0 w2) := Lib.hid (HB4.out.trans hb2)
         have HH := Lib.hid (HY2.out.below HB2.out HY2.out.lt)
         clear how2 hb2
         have e0 := HH.out.cell (i := 0) rfl
         have ze0 := HH.out.frozen 0
         have e1 := HH.out.cell (i := 1) rfl
         have ze1 := HH.out.frozen 1
         have e2 := HH.out.cell (i := 2) rfl
         have ze2 := HH.out.frozen 2
         unfold clrV
         simp only))
    all_goals
      refine bodyPost_ret (v := clrV ⟨cap1, LA2, lc2, li1.drop 1, DA1, dc1, setR dn1 t ⟨seq, 0, 0, v0⟩⟩) (ret_cell (g := w.heap.size + 1 + 1) rfl rfl (clr_load (x := ⟨cap1, LA2, lc2, li1.drop 1, DA1, dc1, setR dn1 t ⟨seq, 0, 0, v0⟩⟩) (put3 HH.out) (by simp only [Clr.cells, List.length_drop]))) rfl ?_
      exact ⟨_, rfl, by rw [HS.out, HV0.out]; rfl, (OwnClr.mk (own_put3 HO2.out.l HH.out (by decide)) (own_put3 HO2.out.d HH.out (by decide))).lower (by omega), below3 (HBX.out.trans (HB2.out.mono HBX.out.size)) (by omega)⟩

  clear HY0 HY1 HY2 HBX HCP hg2 HVL HVS
  by_cases k8 : q.kind = 8
  · by_cases h : (li.length : Int) < cap
    · exact hput ⟨k8, h⟩
    · exact hful ⟨k8, h⟩
  by_cases k9 : q.kind = 9
  · by_cases h : li.length = 0
    · exact hemp ⟨k9, h⟩
    · exact htak ⟨k9, by omega⟩
  by_cases k5 : q.kind = 5
  · exact hlen k5
  by_cases k6 : q.kind = 6
  · exact hcap k6
  exact hno ⟨k8, k9, k5, k6⟩

end Go.Proofs.YtieglgahfeecbaaGreatDoor

namespace Go.Proofs.YtieglgahfeecbaaGreatDoor
open Go.RowKit Go.Sort
attribute [local go_sem ↓] Go.wp_at_zero Go.wp_at_succ

set_option maxHeartbeats 4000000 in
theorem pMay_any (k : Cse) (w : World) : Calls Tryz.prog 88 #[cseV k] w fun e w' => e = .returned (.bool (mayC k)) ∧ Below w.heap.size w w' := by
  have HG : RowKit.Hid (mayC k = ((k.dir == 1 || k.dir == 2) && inB k.handle 0 65535 && inB k.value 0 4294967295)) := Lib.hid rfl
  have HB := Lib.hid ((Below.refl w.heap.size w).alloc (Nat.le_refl _) (.cells #[.int .i64 k.dir, .int .i64 k.handle, .int .i64 k.value] 100))
  generalize mayC k = R at *
  unfold cseV
  cases e1 : (k.dir == 1) <;> cases e2 : (k.dir == 2)
  all_goals
    rw [e1, e2] at HG
    go_enter Tryz.func88, Tryz.ntmps88
    go_wp2_with (go_at_call 87; first | (with_reducible refine (pfits32 _ _).mono ?_; rintro e w' ⟨rfl, rfl⟩) | (with_reducible refine (pfits16 _ _).mono ?_; rintro e w' ⟨rfl, rfl⟩))
    all_goals
      go_ret
      refine ⟨ret_bool ?_, HB.out⟩
      rw [HG.out]
      simp [*]

/-- What stands ahead of a call's cases. -/
def frontQ (q : Reqr) : Bool := inB q.kind 1 9 && inB q.arg 0 65535 && inB q.value 0 4294967295 && decide (q.n ≤ 3)
theorem fitsQ_front (q : Reqr) (l : List Cse) (h : l.length = q.n) : fitsQ (q.p l) = (frontQ q && l.all mayC) := by
  unfold fitsQ frontQ Reqr.p
  simp only [h]

set_option maxHeartbeats 8000000 in
set_option maxRecDepth 100000 in
theorem pFits_any (q : Reqr) (l : List Cse) (w : World) (h : ReqAt w q l) : Calls Tryz.prog 50 #[reqV q] w fun e w' => e = .returned (.bool (fitsQ (q.p l))) ∧ Below w.heap.size w w' := by
  have HG : RowKit.Hid (fitsQ (q.p l) = (frontQ q && l.all mayC)) := Lib.hid (fitsQ_front q l h.len)
  have HF : RowKit.Hid (frontQ q = (decide (1 ≤ q.kind) && decide (q.kind ≤ 9) && inB q.arg 0 65535 && inB q.value 0 4294967295 && decide (q.n ≤ 3))) := Lib.hid rfl
  have HL := Lib.hid h.len
  have HR := Lib.hid h.rd
  generalize fitsQ (q.p l) = R at *
  have HB := Lib.hid ((Below.refl w.heap.size w).alloc (Nat.le_refl _) (.cells #[.int .i64 q.kind, .int .i64 q.arg, .int .i64 q.value, .bool q.dflt, .slice q.A q.n q.c] 40))
  clear h
  obtain ⟨kind, arg, value, dflt, A, n, c⟩ := q
  simp only at HF HL HR HB
  unfold reqV
  simp only
  generalize frontQ ⟨kind, arg, value, dflt, A, n, c⟩ = fr at *
  have HA : RowKit.Hid (1 ≤ kind ∧ kind ≤ 9 ∧ inB arg 0 65535 = true ∧ inB value 0 4294967295 = true ∧ n ≤ 3 → fr = true) := Lib.hid (fun ⟨a1, a2, a3, a4, a5⟩ => by rw [HF.out]; simp [a1, a2, a3, a4, a5])
  have HN : RowKit.Hid (¬ (1 ≤ kind ∧ kind ≤ 9 ∧ inB arg 0 65535 = true ∧ inB value 0 4294967295 = true ∧ n ≤ 3) → fr = false) := Lib.hid (fun hn => by
    rw [HF.out]
    by_cases a1 : 1 ≤ kind <;> by_cases a2 : kind ≤ 9 <;> cases a3 : inB arg 0 65535 <;> cases a4 : inB value 0 4294967295 <;> by_cases a5 : n ≤ 3 <;> simp_all)
  clear HF
  by_cases hall : 1 ≤ kind ∧ kind ≤ 9 ∧ inB arg 0 65535 = true ∧ inB value 0 4294967295 = true ∧ n ≤ 3
  · rw [HA.out hall] at HG
    obtain ⟨a1, a2, a3, a4, a5⟩ := hall
    have a6 : (n : Int) ≤ 3 := by omega
    have HP16 := Lib.hid (fun W => pfits16 arg W)
    have HP32 := Lib.hid (fun W => pfits32 value W)
    rw [a3] at HP16
    rw [a4] at HP32
    clear a3 a4 HA HN
    go_enter Tryz.func50, Tryz.ntmps50
    go_wp2_with (go_at_call 87; first | (with_reducible refine (HP32.out _).mono ?_; rintro e w' ⟨rfl, rfl⟩) | (with_reducible refine (HP16.out _).mono ?_; rintro e w' ⟨rfl, rfl⟩))
    go_loopg [34] n (fun g i wr => ∃ k : Nat, k ≤ n ∧ g = n - k ∧ i = .int .i64 k ∧ (∀ j, j < k → mayC (l.getD j Cse.none) = true) ∧ Below w.heap.size w wr)
    case atStart => exact ⟨0, Nat.zero_le _, rfl, rfl, fun j hj => absurd hj (by omega), HB.out⟩
    case round =>
      obtain ⟨k, hk, hg, rfl, hall, hb⟩ := hrel
      have HGG := Lib.hid hg
      have HAL := Lib.hid hall
      have HBW := Lib.hid hb
      clear hg hall hb
      by_cases hlt : k < n
      · obtain ⟨b, o, rfl, hbl, hc⟩ := (HR.out.below HBW.out).at_ (by rw [rows_length]; simp only [Cellful.s]; have := HL.out; omega)
        obtain ⟨x0, x1, x2⟩ := cse_cells (k := k) (x := l.getD k Cse.none) hc (by have := HL.out; omega) rfl
        have HM := Lib.hid (fun W => pMay_any (l.getD k Cse.none) W)
        have HKL := Lib.hid (show k < l.length by have := HL.out; omega)
        have HBA := Lib.hid (fun ob => HBW.out.alloc HBW.out.size ob)
        generalize hx : l.getD k Cse.none = x at *
        have HX := Lib.hid hx
        unfold cseV at HM
        clear hc hx
        cases hm : mayC x
        · rw [hm] at HM
          go_wp2_with (refine (HM.out _).mono ?_; rintro er w1 ⟨rfl, hb1⟩; have HB1 := Lib.hid hb1; clear hb1)
          go_ret
          refine ⟨ret_bool ?_, (HBA.out _).trans (HB1.out.mono (HBA.out _).size)⟩
          rw [HG.out]
          have : l.all mayC = false := by
            rw [List.all_eq_false]
            refine ⟨x, ?_, by simp [hm]⟩
            rw [← HX.out]
            exact getD_mem HKL.out
          rw [this]; rfl
        · rw [hm] at HM
          go_wp2_with (refine (HM.out _).mono ?_; rintro er w1 ⟨rfl, hb1⟩; have HB1 := Lib.hid hb1; clear hb1)
          go_roundg (n - (k + 1))
          case measure => rw [HGG.out]; omega
          case rel =>
            refine ⟨k + 1, by omega, rfl, by go_num, fun j hj => ?_, (HBA.out _).trans (HB1.out.mono (HBA.out _).size)⟩
            by_cases hjk : j = k
            · subst hjk; rw [HX.out]; exact hm
            · exact HAL.out j (by omega)
      · obtain rfl : k = n := by omega
        go_wp2_with fail
        go_ret
        refine ⟨ret_bool ?_, HBW.out⟩
        rw [HG.out]
        have : l.all mayC = true := by
          rw [List.all_eq_true]
          intro x hx
          obtain ⟨j, hj, rfl⟩ := List.getElem_of_mem hx
          have := HAL.out j (by have := HL.out; omega)
          simpa [List.getD, hj] using this
        rw [this]; rfl
  · rw [HN.out hall] at HG
    have hor : ¬ 1 ≤ kind ∨ (1 ≤ kind ∧ ¬ kind ≤ 9) ∨ (1 ≤ kind ∧ kind ≤ 9 ∧ inB arg 0 65535 = false) ∨ (1 ≤ kind ∧ kind ≤ 9 ∧ inB arg 0 65535 = true ∧ inB value 0 4294967295 = false) ∨ (1 ≤ kind ∧ kind ≤ 9 ∧ inB arg 0 65535 = true ∧ inB value 0 4294967295 = true ∧ 3 < n) := by
      by_cases a1 : 1 ≤ kind <;> by_cases a2 : kind ≤ 9 <;> cases a3 : inB arg 0 65535 <;> cases a4 : inB value 0 4294967295 <;> simp_all
    have HP16 := Lib.hid (fun W => pfits16 arg W)
    have HP32 := Lib.hid (fun W => pfits32 value W)
    clear hall HA HN
    rcases hor with a1 | ⟨a1, a2⟩ | ⟨a1, a2, a3⟩ | ⟨a1, a2, a3, a4⟩ | ⟨a1, a2, a3, a4, a5⟩
    all_goals
      try rw [a3] at HP16
      try rw [a4] at HP32
      try (have a6 : (3 : Int) < (n : Int) := by omega)
      try clear a3
      try clear a4
      go_enter Tryz.func50, Tryz.ntmps50
      go_wp2_with (go_at_call 87; first | (with_reducible refine (HP32.out _).mono ?_; rintro e w' ⟨rfl, rfl⟩) | (with_reducible refine (HP16.out _).mono ?_; rintro e w' ⟨rfl, rfl⟩))
      go_ret
      exact ⟨ret_bool (by rw [HG.out]; rfl), HB.out⟩

end Go.Proofs.YtieglgahfeecbaaGreatDoor




