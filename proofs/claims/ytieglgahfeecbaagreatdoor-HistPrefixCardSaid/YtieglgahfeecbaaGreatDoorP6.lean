/- A whole record is written, cell by cell, into a row of one's own. -/
import Derived.Lib.SliceRun
import Derived.Maps.OwnSet
import Derived.Test.YtieglgahfeecbaaGreatDoorP1
import Derived.Test.YtieglgahfeecbaaGreatDoorP2
import Derived.Test.YtieglgahfeecbaaGreatDoorP3
import Derived.Test.YtieglgahfeecbaaGreatDoorP5
set_option maxHeartbeats 64000000
set_option maxRecDepth 100000
namespace Go.Proofs.YtieglgahfeecbaaGreatDoor
open Go.RowKit Go.Sort
attribute [local go_sem ↓] Go.wp_at_zero Go.wp_at_succ
def Reqr.p (q : Reqr) (l : List Cse) : ReqP := ⟨q.kind, q.arg, q.value, q.dflt, l⟩
theorem fApply_any (x : Clr) (t seq : Int) (q : Reqr) (l : List Cse) (w : World) (hx : ClrAt w x) (hc1 : -1 <= x.cap) :
  Calls Tryz.prog 132 #[clrV x, .int .i64 t, .int .i64 seq, reqV q] w (RetClr (applyC false x.p t seq (q.p l)) w) := by
 obtain ⟨b0, b1, b2, hb3⟩ := box3 w 91 40 91 x.cells q.cells [.int .i64 0, .slice none 0 0, .slice none 0 0]
 have HY0 := Zd b0
 have HY1 := Zd b1
 have HY2 := Zd b2
 have HBX := Zd hb3
 have hfd := hx.fd
 have hfl := hx.fl
 have HC0 := Zd (fun W (hb : Below w.heap.size w W) => fcopied_any x W (hx.below hb))
 have HVL : Hid ((applyC false x.p t seq (q.p l)) = ⟨x.cap, (stpC false x.cap x.list (q.p l)).1, setR x.done t ⟨seq, 0, (stpC false x.cap x.list (q.p l)).2.1, (stpC false x.cap x.list (q.p l)).2.2⟩⟩) := Zd rfl
 have HVS : Hid (stpC false x.cap x.list (q.p l) = if q.kind = 8 then (if (x.list.length : Int) < x.cap then (x.list ++ [q.value], 0, 0) else (x.list, 10, 0))
  else if q.kind = 9 then (if x.list.length = 0 then (x.list, 10, 0) else (x.list.drop 1, 0, x.list.getD 0 0))
  else if q.kind = 5 then (x.list, 0, (x.list.length : Int)) else if q.kind = 6 then (x.list, 0, x.cap) else (x.list, 1, 0)) := Zd rfl
 clear b0 b1 b2 hb3 hx
 generalize hG : applyC false x.p t seq (q.p l) = G at *
 clear hG
 obtain ⟨cap, LA, lc, li, DA, dc, dn⟩ := x
 simp only [Clr.cells, Reqr.cells] at HC0 HVL HVS hfd hfl HY0 HY1 HY2 HBX hc1
 unfold clrV reqV
 unfold clrV at HC0
 simp only at HC0 ⊢
 have hg2 : w.heap.size + 1 + 1 < (((w.alloc (.cells #[.int .i64 cap, .slice LA li.length lc, .slice DA dn.length dc] 91)).alloc (.cells #[.int .i64 q.kind, .int .i64 q.arg, .int .i64 q.value, .bool q.dflt, .slice q.A q.n q.c] 40)).alloc (.cells #[.int .i64 0, .slice none 0 0, .slice none 0 0] 91)).heap.size := HY2.out.lt
 have HCP := Zd (HC0.out _ HBX.out)
 clear HC0
 have hno : (¬ q.kind = 8 /\ ¬ q.kind = 9 /\ ¬ q.kind = 5 /\ ¬ q.kind = 6) -> Calls Tryz.prog 132 #[.agg #[.int .i64 cap, .slice LA li.length lc, .slice DA dn.length dc], .int .i64 t, .int .i64 seq, .agg #[.int .i64 q.kind, .int .i64 q.arg, .int .i64 q.value, .bool q.dflt, .slice q.A q.n q.c]] w (RetClr G w) := by
  intro hyp
  have HS : Hid (G = ⟨cap, li, setR dn t ⟨seq, 0, 1, 0⟩⟩) := Zd (by rw [HVL.out, HVS.out]; rw [if_neg hyp.1, if_neg hyp.2.1, if_neg hyp.2.2.1, if_neg hyp.2.2.2])
  clear HVL HVS
  obtain ⟨k8, k9, k5, k6⟩ := hyp
  have e8 : (q.kind == 8) = false := by simp [k8]
  have e9 : (q.kind == 9) = false := by simp [k9]
  have e5 : (q.kind == 5) = false := by simp [k5]
  have e6 : (q.kind == 6) = false := by simp [k6]
  clear k8 k9 k5 k6
  go_enter Tryz.func132, Tryz.ntmps132
  go_upto_region 1 with fail
  generalize (((w.alloc (.cells #[.int .i64 cap, .slice LA li.length lc, .slice DA dn.length dc] 91)).alloc (.cells #[.int .i64 q.kind, .int .i64 q.arg, .int .i64 q.value, .bool q.dflt, .slice q.A q.n q.c] 40)).alloc (.cells #[.int .i64 0, .slice none 0 0, .slice none 0 0] 91)) = W0 at *
  obtain ⟨y0, y1, y2⟩ : W0.cell? ⟨w.heap.size, 0, none⟩ = some (.int .i64 cap) /\ W0.cell? ⟨w.heap.size, 1, none⟩ = some (.slice LA li.length lc) /\ W0.cell? ⟨w.heap.size, 2, none⟩ = some (.slice DA dn.length dc) := ⟨HY0.out.cell rfl, HY0.out.cell rfl, HY0.out.cell rfl⟩
  go_wp2_with (first
   | (refine HCP.out.mono ?_
      rintro er w1 ⟨⟨cap1, LA1, lc1, li1, DA1, dc1, dn1⟩, rfl, hp, how1, hb1⟩
      simp only [Clr.p, CellsP.mk.injEq] at hp
      obtain ⟨rfl, rfl, rfl⟩ := hp
      unfold clrV
      simp only
      have HO1 := Zd how1
      have HB1 := Zd hb1
      have HR1 := Zd (HY1.out.below hb1 HY1.out.lt)
      obtain ⟨q0, q1, q2, q3, q4⟩ := reqBox (q := q) HR1.out
      have hlt1 : w.heap.size + 1 < w1.heap.size := HR1.out.lt
      clear how1 hb1)
   | (refine (ftold_any W0.heap.size ⟨cap1, LA1, lc1, li1, DA1, dc1, dn1⟩ t seq _ _ _ ?_ ?_ hfd).mono ?_
      . exact Nat.le_trans HB1.out.size (by simp)
      . exact HO1.out.below ((Below.refl _ _).alloc (Nat.le_refl _) _)
      rintro er w2 ⟨rfl, how2, hb2⟩
      have HO2 := Zd how2
      have HB2 : Hid (Below W0.heap.size W0 w2) := Zd ((HB1.out.alloc HB1.out.size _).trans hb2)
      have HH := Zd (HY2.out.below HB2.out HY2.out.lt)
      clear how2 hb2
      have e0 := HH.out.cell (i := 0) rfl
      have ze0 := HH.out.frozen 0
      have e1 := HH.out.cell (i := 1) rfl
      have ze1 := HH.out.frozen 1
      have e2 := HH.out.cell (i := 2) rfl
      have ze2 := HH.out.frozen 2
      unfold clrV
      simp only))
  refine bodyPost_ret (v := clrV ⟨cap1, LA1, lc1, li1, DA1, dc1, setR dn1 t ⟨seq, 0, 1, 0⟩⟩) (ret_cell (g := w.heap.size + 1 + 1) rfl rfl (clr_load (x := ⟨cap1, LA1, lc1, li1, DA1, dc1, setR dn1 t ⟨seq, 0, 1, 0⟩⟩) (put3 HH.out) (by simp only [Clr.cells]))) rfl ?_
  exact ⟨_, rfl, by rw [HS.out]; rfl, (OwnClr.mk (own_put3 HO2.out.l HH.out (by decide)) (own_put3 HO2.out.d HH.out (by decide))).lower (by omega), below3 (HBX.out.trans (HB2.out.mono HBX.out.size)) (by omega)⟩
 have hful : (q.kind = 8 /\ ¬ (li.length : Int) < cap) -> Calls Tryz.prog 132 #[.agg #[.int .i64 cap, .slice LA li.length lc, .slice DA dn.length dc], .int .i64 t, .int .i64 seq, .agg #[.int .i64 q.kind, .int .i64 q.arg, .int .i64 q.value, .bool q.dflt, .slice q.A q.n q.c]] w (RetClr G w) := by
  intro hyp
  have HS : Hid (G = ⟨cap, li, setR dn t ⟨seq, 0, 10, 0⟩⟩) := Zd (by rw [HVL.out, HVS.out]; rw [if_pos hyp.1, if_neg hyp.2])
  clear HVL HVS
  obtain ⟨k8, hle⟩ := hyp
  have hle : cap <= (li.length : Int) := by omega
  have e8 : (q.kind == 8) = true := by simp [k8]
  clear k8
  go_enter Tryz.func132, Tryz.ntmps132
  go_upto_region 1 with fail
  generalize (((w.alloc (.cells #[.int .i64 cap, .slice LA li.length lc, .slice DA dn.length dc] 91)).alloc (.cells #[.int .i64 q.kind, .int .i64 q.arg, .int .i64 q.value, .bool q.dflt, .slice q.A q.n q.c] 40)).alloc (.cells #[.int .i64 0, .slice none 0 0, .slice none 0 0] 91)) = W0 at *
  obtain ⟨y0, y1, y2⟩ : W0.cell? ⟨w.heap.size, 0, none⟩ = some (.int .i64 cap) /\ W0.cell? ⟨w.heap.size, 1, none⟩ = some (.slice LA li.length lc) /\ W0.cell? ⟨w.heap.size, 2, none⟩ = some (.slice DA dn.length dc) := ⟨HY0.out.cell rfl, HY0.out.cell rfl, HY0.out.cell rfl⟩
  go_wp2_with (first
   | (refine HCP.out.mono ?_
      rintro er w1 ⟨⟨cap1, LA1, lc1, li1, DA1, dc1, dn1⟩, rfl, hp, how1, hb1⟩
      simp only [Clr.p, CellsP.mk.injEq] at hp
      obtain ⟨rfl, rfl, rfl⟩ := hp
      unfold clrV
      simp only
      have HO1 := Zd how1
      have HB1 := Zd hb1
      have HR1 := Zd (HY1.out.below hb1 HY1.out.lt)
      obtain ⟨q0, q1, q2, q3, q4⟩ := reqBox (q := q) HR1.out
      have hlt1 : w.heap.size + 1 < w1.heap.size := HR1.out.lt
      clear how1 hb1)
   | (refine (ftold_any W0.heap.size ⟨cap1, LA1, lc1, li1, DA1, dc1, dn1⟩ t seq _ _ _ ?_ ?_ hfd).mono ?_
      . exact Nat.le_trans HB1.out.size (by simp)
      . exact HO1.out.below ((Below.refl _ _).alloc (Nat.le_refl _) _)
      rintro er w2 ⟨rfl, how2, hb2⟩
      have HO2 := Zd how2
      have HB2 : Hid (Below W0.heap.size W0 w2) := Zd ((HB1.out.alloc HB1.out.size _).trans hb2)
      have HH := Zd (HY2.out.below HB2.out HY2.out.lt)
      clear how2 hb2
      have e0 := HH.out.cell (i := 0) rfl
      have ze0 := HH.out.frozen 0
      have e1 := HH.out.cell (i := 1) rfl
      have ze1 := HH.out.frozen 1
      have e2 := HH.out.cell (i := 2) rfl
      have ze2 := HH.out.frozen 2
      unfold clrV
      simp only))
  refine bodyPost_ret (v := clrV ⟨cap1, LA1, lc1, li1, DA1, dc1, setR dn1 t ⟨seq, 0, 10, 0⟩⟩) (ret_cell (g := w.heap.size + 1 + 1) rfl rfl (clr_load (x := ⟨cap1, LA1, lc1, li1, DA1, dc1, setR dn1 t ⟨seq, 0, 10, 0⟩⟩) (put3 HH.out) (by simp only [Clr.cells]))) rfl ?_
  exact ⟨_, rfl, by rw [HS.out]; rfl, (OwnClr.mk (own_put3 HO2.out.l HH.out (by decide)) (own_put3 HO2.out.d HH.out (by decide))).lower (by omega), below3 (HBX.out.trans (HB2.out.mono HBX.out.size)) (by omega)⟩
 have hemp : (q.kind = 9 /\ li.length = 0) -> Calls Tryz.prog 132 #[.agg #[.int .i64 cap, .slice LA li.length lc, .slice DA dn.length dc], .int .i64 t, .int .i64 seq, .agg #[.int .i64 q.kind, .int .i64 q.arg, .int .i64 q.value, .bool q.dflt, .slice q.A q.n q.c]] w (RetClr G w) := by
  intro hyp
  have HS : Hid (G = ⟨cap, li, setR dn t ⟨seq, 0, 10, 0⟩⟩) := Zd (by rw [HVL.out, HVS.out]; rw [if_neg (by rw [hyp.1]; decide), if_pos hyp.1, if_pos hyp.2])
  clear HVL HVS
  obtain ⟨k9, hle0⟩ := hyp
  have hle : ((li.length : Int) == 0) = true := by simp only [beq_iff_eq]; omega
  have k8 : ¬ q.kind = 8 := by omega
  have e8 : (q.kind == 8) = false := by simp [k8]
  have e9 : (q.kind == 9) = true := by simp [k9]
  clear k8 k9 hle0
  go_enter Tryz.func132, Tryz.ntmps132
  go_upto_region 1 with fail
  generalize (((w.alloc (.cells #[.int .i64 cap, .slice LA li.length lc, .slice DA dn.length dc] 91)).alloc (.cells #[.int .i64 q.kind, .int .i64 q.arg, .int .i64 q.value, .bool q.dflt, .slice q.A q.n q.c] 40)).alloc (.cells #[.int .i64 0, .slice none 0 0, .slice none 0 0] 91)) = W0 at *
  obtain ⟨y0, y1, y2⟩ : W0.cell? ⟨w.heap.size, 0, none⟩ = some (.int .i64 cap) /\ W0.cell? ⟨w.heap.size, 1, none⟩ = some (.slice LA li.length lc) /\ W0.cell? ⟨w.heap.size, 2, none⟩ = some (.slice DA dn.length dc) := ⟨HY0.out.cell rfl, HY0.out.cell rfl, HY0.out.cell rfl⟩
  go_wp2_with (first
   | (refine HCP.out.mono ?_
      rintro er w1 ⟨⟨cap1, LA1, lc1, li1, DA1, dc1, dn1⟩, rfl, hp, how1, hb1⟩
      simp only [Clr.p, CellsP.mk.injEq] at hp
      obtain ⟨rfl, rfl, rfl⟩ := hp
      unfold clrV
      simp only
      have HO1 := Zd how1
      have HB1 := Zd hb1
      have HR1 := Zd (HY1.out.below hb1 HY1.out.lt)
      obtain ⟨q0, q1, q2, q3, q4⟩ := reqBox (q := q) HR1.out
      have hlt1 : w.heap.size + 1 < w1.heap.size := HR1.out.lt
      clear how1 hb1)
   | (refine (ftold_any W0.heap.size ⟨cap1, LA1, lc1, li1, DA1, dc1, dn1⟩ t seq _ _ _ ?_ ?_ hfd).mono ?_
      . exact Nat.le_trans HB1.out.size (by simp)
      . exact HO1.out.below ((Below.refl _ _).alloc (Nat.le_refl _) _)
      rintro er w2 ⟨rfl, how2, hb2⟩
      have HO2 := Zd how2
      have HB2 : Hid (Below W0.heap.size W0 w2) := Zd ((HB1.out.alloc HB1.out.size _).trans hb2)
      have HH := Zd (HY2.out.below HB2.out HY2.out.lt)
      clear how2 hb2
      have e0 := HH.out.cell (i := 0) rfl
      have ze0 := HH.out.frozen 0
      have e1 := HH.out.cell (i := 1) rfl
      have ze1 := HH.out.frozen 1
      have e2 := HH.out.cell (i := 2) rfl
      have ze2 := HH.out.frozen 2
      unfold clrV
      simp only))
  refine bodyPost_ret (v := clrV ⟨cap1, LA1, lc1, li1, DA1, dc1, setR dn1 t ⟨seq, 0, 10, 0⟩⟩) (ret_cell (g := w.heap.size + 1 + 1) rfl rfl (clr_load (x := ⟨cap1, LA1, lc1, li1, DA1, dc1, setR dn1 t ⟨seq, 0, 10, 0⟩⟩) (put3 HH.out) (by simp only [Clr.cells]))) rfl ?_
  exact ⟨_, rfl, by rw [HS.out]; rfl, (OwnClr.mk (own_put3 HO2.out.l HH.out (by decide)) (own_put3 HO2.out.d HH.out (by decide))).lower (by omega), below3 (HBX.out.trans (HB2.out.mono HBX.out.size)) (by omega)⟩
 have hlen : (q.kind = 5) -> Calls Tryz.prog 132 #[.agg #[.int .i64 cap, .slice LA li.length lc, .slice DA dn.length dc], .int .i64 t, .int .i64 seq, .agg #[.int .i64 q.kind, .int .i64 q.arg, .int .i64 q.value, .bool q.dflt, .slice q.A q.n q.c]] w (RetClr G w) := by
  intro hyp
  have HS : Hid (G = ⟨cap, li, setR dn t ⟨seq, 0, 0, (li.length : Int)⟩⟩) := Zd (by rw [HVL.out, HVS.out]; rw [if_neg (by rw [hyp]; decide), if_neg (by rw [hyp]; decide), if_pos hyp])
  clear HVL HVS
  have k5 := hyp
  have k8 : ¬ q.kind = 8 := by omega
  have k9 : ¬ q.kind = 9 := by omega
  have e8 : (q.kind == 8) = false := by simp [k8]
  have e9 : (q.kind == 9) = false := by simp [k9]
  have e5 : (q.kind == 5) = true := by simp [k5]
  clear k8 k9 k5 hyp
  go_enter Tryz.func132, Tryz.ntmps132
  go_upto_region 1 with fail
  generalize (((w.alloc (.cells #[.int .i64 cap, .slice LA li.length lc, .slice DA dn.length dc] 91)).alloc (.cells #[.int .i64 q.kind, .int .i64 q.arg, .int .i64 q.value, .bool q.dflt, .slice q.A q.n q.c] 40)).alloc (.cells #[.int .i64 0, .slice none 0 0, .slice none 0 0] 91)) = W0 at *
  obtain ⟨y0, y1, y2⟩ : W0.cell? ⟨w.heap.size, 0, none⟩ = some (.int .i64 cap) /\ W0.cell? ⟨w.heap.size, 1, none⟩ = some (.slice LA li.length lc) /\ W0.cell? ⟨w.heap.size, 2, none⟩ = some (.slice DA dn.length dc) := ⟨HY0.out.cell rfl, HY0.out.cell rfl, HY0.out.cell rfl⟩
  go_wp2_with (first
   | (refine HCP.out.mono ?_
      rintro er w1 ⟨⟨cap1, LA1, lc1, li1, DA1, dc1, dn1⟩, rfl, hp, how1, hb1⟩
      simp only [Clr.p, CellsP.mk.injEq] at hp
      obtain ⟨rfl, rfl, rfl⟩ := hp
      unfold clrV
      simp only
      have HO1 := Zd how1
      have HB1 := Zd hb1
      have HR1 := Zd (HY1.out.below hb1 HY1.out.lt)
      obtain ⟨q0, q1, q2, q3, q4⟩ := reqBox (q := q) HR1.out
      have hlt1 : w.heap.size + 1 < w1.heap.size := HR1.out.lt
      clear how1 hb1)
   | (refine (ftold_any W0.heap.size ⟨cap1, LA1, lc1, li1, DA1, dc1, dn1⟩ t seq _ _ _ ?_ ?_ hfd).mono ?_
      . exact Nat.le_trans HB1.out.size (by simp)
      . exact HO1.out.below ((Below.refl _ _).alloc (Nat.le_refl _) _)
      rintro er w2 ⟨rfl, how2, hb2⟩
      have HO2 := Zd how2
      have HB2 : Hid (Below W0.heap.size W0 w2) := Zd ((HB1.out.alloc HB1.out.size _).trans hb2)
      have HH := Zd (HY2.out.below HB2.out HY2.out.lt)
      clear how2 hb2
      have e0 := HH.out.cell (i := 0) rfl
      have ze0 := HH.out.frozen 0
      have e1 := HH.out.cell (i := 1) rfl
      have ze1 := HH.out.frozen 1
      have e2 := HH.out.cell (i := 2) rfl
      have ze2 := HH.out.frozen 2
      unfold clrV
      simp only))
  refine bodyPost_ret (v := clrV ⟨cap1, LA1, lc1, li1, DA1, dc1, setR dn1 t ⟨seq, 0, 0, (li1.length : Int)⟩⟩) (ret_cell (g := w.heap.size + 1 + 1) rfl rfl (clr_load (x := ⟨cap1, LA1, lc1, li1, DA1, dc1, setR dn1 t ⟨seq, 0, 0, (li1.length : Int)⟩⟩) (put3 HH.out) (by simp only [Clr.cells]))) rfl ?_
  exact ⟨_, rfl, by rw [HS.out]; rfl, (OwnClr.mk (own_put3 HO2.out.l HH.out (by decide)) (own_put3 HO2.out.d HH.out (by decide))).lower (by omega), below3 (HBX.out.trans (HB2.out.mono HBX.out.size)) (by omega)⟩
 have hcap : (q.kind = 6) -> Calls Tryz.prog 132 #[.agg #[.int .i64 cap, .slice LA li.length lc, .slice DA dn.length dc], .int .i64 t, .int .i64 seq, .agg #[.int .i64 q.kind, .int .i64 q.arg, .int .i64 q.value, .bool q.dflt, .slice q.A q.n q.c]] w (RetClr G w) := by
  intro hyp
  have HS : Hid (G = ⟨cap, li, setR dn t ⟨seq, 0, 0, cap⟩⟩) := Zd (by rw [HVL.out, HVS.out]; rw [if_neg (by rw [hyp]; decide), if_neg (by rw [hyp]; decide), if_neg (by rw [hyp]; decide), if_pos hyp])
  clear HVL HVS
  have k6 := hyp
  have k8 : ¬ q.kind = 8 := by omega
  have k9 : ¬ q.kind = 9 := by omega
  have k5 : ¬ q.kind = 5 := by omega
  have e8 : (q.kind == 8) = false := by simp [k8]
  have e9 : (q.kind == 9) = false := by simp [k9]
  have e5 : (q.kind == 5) = false := by simp [k5]
  have e6 : (q.kind == 6) = true := by simp [k6]
  clear k8 k9 k5 k6 hyp
  go_enter Tryz.func132, Tryz.ntmps132
  go_upto_region 1 with fail
  generalize (((w.alloc (.cells #[.int .i64 cap, .slice LA li.length lc, .slice DA dn.length dc] 91)).alloc (.cells #[.int .i64 q.kind, .int .i64 q.arg, .int .i64 q.value, .bool q.dflt, .slice q.A q.n q.c] 40)).alloc (.cells #[.int .i64 0, .slice none 0 0, .slice none 0 0] 91)) = W0 at *
  obtain ⟨y0, y1, y2⟩ : W0.cell? ⟨w.heap.size, 0, none⟩ = some (.int .i64 cap) /\ W0.cell? ⟨w.heap.size, 1, none⟩ = some (.slice LA li.length lc) /\ W0.cell? ⟨w.heap.size, 2, none⟩ = some (.slice DA dn.length dc) := ⟨HY0.out.cell rfl, HY0.out.cell rfl, HY0.out.cell rfl⟩
  go_wp2_with (first
   | (refine HCP.out.mono ?_
      rintro er w1 ⟨⟨cap1, LA1, lc1, li1, DA1, dc1, dn1⟩, rfl, hp, how1, hb1⟩
      simp only [Clr.p, CellsP.mk.injEq] at hp
      obtain ⟨rfl, rfl, rfl⟩ := hp
      unfold clrV
      simp only
      have HO1 := Zd how1
      have HB1 := Zd hb1
      have HR1 := Zd (HY1.out.below hb1 HY1.out.lt)
      obtain ⟨q0, q1, q2, q3, q4⟩ := reqBox (q := q) HR1.out
      have hlt1 : w.heap.size + 1 < w1.heap.size := HR1.out.lt
      clear how1 hb1)
   | (refine (ftold_any W0.heap.size ⟨cap1, LA1, lc1, li1, DA1, dc1, dn1⟩ t seq _ _ _ ?_ ?_ hfd).mono ?_
      . exact Nat.le_trans HB1.out.size (by simp)
      . exact HO1.out.below ((Below.refl _ _).alloc (Nat.le_refl _) _)
      rintro er w2 ⟨rfl, how2, hb2⟩
      have HO2 := Zd how2
      have HB2 : Hid (Below W0.heap.size W0 w2) := Zd ((HB1.out.alloc HB1.out.size _).trans hb2)
      have HH := Zd (HY2.out.below HB2.out HY2.out.lt)
      clear how2 hb2
      have e0 := HH.out.cell (i := 0) rfl
      have ze0 := HH.out.frozen 0
      have e1 := HH.out.cell (i := 1) rfl
      have ze1 := HH.out.frozen 1
      have e2 := HH.out.cell (i := 2) rfl
      have ze2 := HH.out.frozen 2
      unfold clrV
      simp only))
  refine bodyPost_ret (v := clrV ⟨cap1, LA1, lc1, li1, DA1, dc1, setR dn1 t ⟨seq, 0, 0, cap1⟩⟩) (ret_cell (g := w.heap.size + 1 + 1) rfl rfl (clr_load (x := ⟨cap1, LA1, lc1, li1, DA1, dc1, setR dn1 t ⟨seq, 0, 0, cap1⟩⟩) (put3 HH.out) (by simp only [Clr.cells]))) rfl ?_
  exact ⟨_, rfl, by rw [HS.out]; rfl, (OwnClr.mk (own_put3 HO2.out.l HH.out (by decide)) (own_put3 HO2.out.d HH.out (by decide))).lower (by omega), below3 (HBX.out.trans (HB2.out.mono HBX.out.size)) (by omega)⟩
 have hput : (q.kind = 8 /\ (li.length : Int) < cap) -> Calls Tryz.prog 132 #[.agg #[.int .i64 cap, .slice LA li.length lc, .slice DA dn.length dc], .int .i64 t, .int .i64 seq, .agg #[.int .i64 q.kind, .int .i64 q.arg, .int .i64 q.value, .bool q.dflt, .slice q.A q.n q.c]] w (RetClr G w) := by
  intro hyp
  have HS : Hid (G = ⟨cap, li ++ [q.value], setR dn t ⟨seq, 0, 0, 0⟩⟩) := Zd (by rw [HVL.out, HVS.out]; rw [if_pos hyp.1, if_pos hyp.2])
  clear HVL HVS
  obtain ⟨k8, hle⟩ := hyp
  have e8 : (q.kind == 8) = true := by simp [k8]
  clear k8
  go_enter Tryz.func132, Tryz.ntmps132
  go_upto_region 1 with fail
  generalize (((w.alloc (.cells #[.int .i64 cap, .slice LA li.length lc, .slice DA dn.length dc] 91)).alloc (.cells #[.int .i64 q.kind, .int .i64 q.arg, .int .i64 q.value, .bool q.dflt, .slice q.A q.n q.c] 40)).alloc (.cells #[.int .i64 0, .slice none 0 0, .slice none 0 0] 91)) = W0 at *
  obtain ⟨y0, y1, y2⟩ : W0.cell? ⟨w.heap.size, 0, none⟩ = some (.int .i64 cap) /\ W0.cell? ⟨w.heap.size, 1, none⟩ = some (.slice LA li.length lc) /\ W0.cell? ⟨w.heap.size, 2, none⟩ = some (.slice DA dn.length dc) := ⟨HY0.out.cell rfl, HY0.out.cell rfl, HY0.out.cell rfl⟩
  go_wp2_with (first
   | (refine HCP.out.mono ?_
      rintro er w1 ⟨⟨cap1, LA1, lc1, li1, DA1, dc1, dn1⟩, rfl, hp, how1, hb1⟩
      simp only [Clr.p, CellsP.mk.injEq] at hp
      obtain ⟨rfl, rfl, rfl⟩ := hp
      unfold clrV
      simp only
      have HO1 := Zd how1
      have HB1 := Zd hb1
      have HR1 := Zd (HY1.out.below hb1 HY1.out.lt)
      obtain ⟨q0, q1, q2, q3, q4⟩ := reqBox (q := q) HR1.out
      have hlt1 : w.heap.size + 1 < w1.heap.size := HR1.out.lt
      clear how1 hb1)
   | (at_builtin
      refine wpList_app rfl (.tmp 28) (.tmp 31) 22 3 rfl W0.heap.size (.int .i64 0) 1 8 Tryz.underlying22 int_info rfl (by decide) LA1 li1.length lc1 (ints li1) rfl (own_below HO1.out.l (below_two _ _ _)) (some ⟨w1.heap.size + 1, 0, none⟩) 1 1 (ints [q.value]) rfl (by simp) rfl (blk_new (by simp)).rd (ints_one _) (li1.length + 1) rfl (ints (li1 ++ [q.value])) (by simp [ints]) (by unfold maxLen; omega) (by omega) (Nat.le_trans HB1.out.size (by simp; omega)) ?_
      intro LA2 lc2 w3 hown3 hg3 hb3
      have HBO := Zd (blk_grown (Blk.alloc (Blk.new w1 91 [.int .i64 cap1, .slice LA1 li1.length lc1, .slice DA1 dn1.length dc1]) (.cells #[.int .i64 q.value] 3)) hg3 (fun he => by have := own_in HO1.out.l _ he.symm; omega))
      have HDX := Zd (own_grown_ty (own_below HO1.out.d (below_two _ _ _)) (own_below HO1.out.l (below_two _ _ _)) (by decide) hg3)
      have HB3 := Zd (((HB1.out.alloc HB1.out.size _).alloc (Nat.le_trans HB1.out.size (by simp)) _).trans hb3)
      have HL0 := Zd hown3
      have y3 := HBO.out.cell (i := 0) rfl
      have y4 := HBO.out.cell (i := 1) rfl
      have zy4 := HBO.out.frozen 1
      have y5 := HBO.out.cell (i := 2) rfl
      have HN3 := Zd (show W0.heap.size <= w1.heap.size from HB1.out.size)
      clear hown3 hg3 hb3)
   | (have HB4 := Zd (HB3.out.setCell (p := ⟨w1.heap.size, 1, none⟩) HN3.out (.slice LA2 (li1.length + 1) lc2))
      have HL3 := Zd (own_ty HL0.out HBO.out (by decide) 1 (.slice LA2 (li1.length + 1) lc2))
      have HD3 := Zd (own_ty HDX.out HBO.out (by decide) 1 (.slice LA2 (li1.length + 1) lc2))
      have el : (li1 ++ [q.value]).length = li1.length + 1 := by simp
      rw [<- el] at HL3 HB4 HD3 ⊢
      refine (ftold_any W0.heap.size ⟨cap1, LA2, lc2, li1 ++ [q.value], DA1, dc1, dn1⟩ t seq _ _ _ ?_ ?_ hfd).mono ?_
      . exact HB4.out.size
      . exact ⟨HL3.out, HD3.out⟩
      rintro er w2 ⟨rfl, how2, hb2⟩
      have HO2 := Zd how2
      have HB2 : Hid (Below W0.heap.size W0 w2) := Zd (HB4.out.trans hb2)
      have HH := Zd (HY2.out.below HB2.out HY2.out.lt)
      clear how2 hb2
      have e0 := HH.out.cell (i := 0) rfl
      have ze0 := HH.out.frozen 0
      have e1 := HH.out.cell (i := 1) rfl
      have ze1 := HH.out.frozen 1
      have e2 := HH.out.cell (i := 2) rfl
      have ze2 := HH.out.frozen 2
      unfold clrV
      simp only))
  refine bodyPost_ret (v := clrV ⟨cap1, LA2, lc2, li1 ++ [q.value], DA1, dc1, setR dn1 t ⟨seq, 0, 0, 0⟩⟩) (ret_cell (g := w.heap.size + 1 + 1) rfl rfl (clr_load (x := ⟨cap1, LA2, lc2, li1 ++ [q.value], DA1, dc1, setR dn1 t ⟨seq, 0, 0, 0⟩⟩) (put3 HH.out) (by simp [Clr.cells]))) rfl ?_
  exact ⟨_, rfl, by rw [HS.out]; rfl, (OwnClr.mk (own_put3 HO2.out.l HH.out (by decide)) (own_put3 HO2.out.d HH.out (by decide))).lower (by omega), below3 (HBX.out.trans (HB2.out.mono HBX.out.size)) (by omega)⟩
 have htak : (q.kind = 9 /\ 0 < li.length) -> Calls Tryz.prog 132 #[.agg #[.int .i64 cap, .slice LA li.length lc, .slice DA dn.length dc], .int .i64 t, .int .i64 seq, .agg #[.int .i64 q.kind, .int .i64 q.arg, .int .i64 q.value, .bool q.dflt, .slice q.A q.n q.c]] w (RetClr G w) := by
  intro hyp
  have HS : Hid (G = ⟨cap, li.drop 1, setR dn t ⟨seq, 0, 0, li.getD 0 0⟩⟩) := Zd (by rw [HVL.out, HVS.out]; rw [if_neg (by rw [hyp.1]; decide), if_pos hyp.1, if_neg (by omega)])
  clear HVL HVS
  obtain ⟨k9, hle0⟩ := hyp
  have hle : ((li.length : Int) == 0) = false := by simp only [beq_eq_false_iff_ne, ne_eq]; omega
  have k8 : ¬ q.kind = 8 := by omega
  have e8 : (q.kind == 8) = false := by simp [k8]
  have e9 : (q.kind == 9) = true := by simp [k9]
  clear k8 k9
  have h0 : (0 : Int) < (li.length : Int) := by omega
  have h1 : (1 : Int) <= (li.length : Int) := by omega
  go_enter Tryz.func132, Tryz.ntmps132
  go_upto_region 1 with fail
  generalize (((w.alloc (.cells #[.int .i64 cap, .slice LA li.length lc, .slice DA dn.length dc] 91)).alloc (.cells #[.int .i64 q.kind, .int .i64 q.arg, .int .i64 q.value, .bool q.dflt, .slice q.A q.n q.c] 40)).alloc (.cells #[.int .i64 0, .slice none 0 0, .slice none 0 0] 91)) = W0 at *
  obtain ⟨y0, y1, y2⟩ : W0.cell? ⟨w.heap.size, 0, none⟩ = some (.int .i64 cap) /\ W0.cell? ⟨w.heap.size, 1, none⟩ = some (.slice LA li.length lc) /\ W0.cell? ⟨w.heap.size, 2, none⟩ = some (.slice DA dn.length dc) := ⟨HY0.out.cell rfl, HY0.out.cell rfl, HY0.out.cell rfl⟩
  go_wp2_with (first
   | (refine HCP.out.mono ?_
      rintro er w1 ⟨⟨cap1, LA1, lc1, li1, DA1, dc1, dn1⟩, rfl, hp, how1, hb1⟩
      simp only [Clr.p, CellsP.mk.injEq] at hp
      obtain ⟨rfl, rfl, rfl⟩ := hp
      unfold clrV
      simp only
      have HO1 := Zd how1
      have HB1 := Zd hb1
      have HR1 := Zd (HY1.out.below hb1 HY1.out.lt)
      obtain ⟨q0, q1, q2, q3, q4⟩ := reqBox (q := q) HR1.out
      have hlt1 : w.heap.size + 1 < w1.heap.size := HR1.out.lt
      obtain ⟨gl, hgl, hgl1, hgl2⟩ := own_some how1.l hle0
      simp only at hgl
      subst hgl
      have hcp : li1.length <= lc1 := own_le how1.l
      have hcp1 : (li1.length : Int) <= (lc1 : Int) := by omega
      have u0 := own_cellAt how1.l 0 _ (ints_at hle0)
      simp only [Nat.add_zero] at u0
      generalize hv0 : li1.getD 0 0 = v0 at u0
      have HV0 := Zd hv0
      clear hv0
      have HRD1 : Hid (Rd w1 (some ⟨gl, 0 + 1, none⟩) (ints (li1.drop 1))) := Zd (.inr ⟨gl, 0 + 1, rfl, hgl2, fun k v hk => by
       have e : ints (li1.drop 1) = (ints li1).drop 1 := by simp [ints]
       rw [e, List.getElem?_drop] at hk
       have := own_cellAt how1.l (1 + k) v hk
       rwa [<- Nat.add_assoc] at this⟩)
      clear how1 hb1)
   | (refine (CloneI_any _ (li1.length - 1) _ (ints (li1.drop 1)) _ (by omega) (by rw [ints_length, List.length_drop]; omega) (ints_one _) (by first | exact HRD1.out.below ((Below.refl _ _).alloc (Nat.le_refl _) _) | exact .inl (List.eq_nil_of_length_eq_zero (by rw [ints_length, List.length_drop]; omega)))).mono ?_
      rintro er w6 ⟨LA2, lc2, rfl, how6, hb6⟩
      have HBO := Zd ((Blk.new w1 91 [.int .i64 cap1, .slice (some ⟨gl, 0, none⟩) li1.length _, .slice DA1 dn1.length dc1]).below hb6 (lt_alloc _ _))
      have HL0 := Zd (own_lower how6 (show W0.heap.size <= _ from Nat.le_trans HB1.out.size (Nat.le_of_lt (lt_alloc _ _))))
      have HDX := Zd (own_below (own_below HO1.out.d ((Below.refl _ _).alloc (Nat.le_refl _) _)) hb6)
      have HB3 := Zd ((HB1.out.alloc HB1.out.size _).trans (hb6.mono (Nat.le_trans HB1.out.size (Nat.le_of_lt (lt_alloc _ _)))))
      have y3 := HBO.out.cell (i := 0) rfl
      have y4 := HBO.out.cell (i := 1) rfl
      have zy4 := HBO.out.frozen 1
      have y5 := HBO.out.cell (i := 2) rfl
      have HN3 := Zd (show W0.heap.size <= w1.heap.size from HB1.out.size)
      clear how6 hb6)
   | (have HB4 := Zd (HB3.out.setCell (p := ⟨w1.heap.size, 1, none⟩) HN3.out (.slice LA2 (li1.length - 1) lc2))
      have HL3 := Zd (own_ty HL0.out HBO.out (by decide) 1 (.slice LA2 (li1.length - 1) lc2))
      have HD3 := Zd (own_ty HDX.out HBO.out (by decide) 1 (.slice LA2 (li1.length - 1) lc2))
      have el : (li1.drop 1).length = li1.length - 1 := by simp
      rw [<- el] at HL3 HB4 HD3 ⊢
      refine (ftold_any W0.heap.size ⟨cap1, LA2, lc2, li1.drop 1, DA1, dc1, dn1⟩ t seq _ _ _ ?_ ?_ hfd).mono ?_
      . exact HB4.out.size
      . exact ⟨HL3.out, HD3.out⟩
      rintro er w2 ⟨rfl, how2, hb2⟩
      have HO2 := Zd how2
      have HB2 : Hid (Below W0.heap.size W0 w2) := Zd (HB4.out.trans hb2)
      have HH := Zd (HY2.out.below HB2.out HY2.out.lt)
      clear how2 hb2
      have e0 := HH.out.cell (i := 0) rfl
      have ze0 := HH.out.frozen 0
      have e1 := HH.out.cell (i := 1) rfl
      have ze1 := HH.out.frozen 1
      have e2 := HH.out.cell (i := 2) rfl
      have ze2 := HH.out.frozen 2
      unfold clrV
      simp only))
  all_goals
   refine bodyPost_ret (v := clrV ⟨cap1, LA2, lc2, li1.drop 1, DA1, dc1, setR dn1 t ⟨seq, 0, 0, v0⟩⟩) (ret_cell (g := w.heap.size + 1 + 1) rfl rfl (clr_load (x := ⟨cap1, LA2, lc2, li1.drop 1, DA1, dc1, setR dn1 t ⟨seq, 0, 0, v0⟩⟩) (put3 HH.out) (by simp only [Clr.cells, List.length_drop]))) rfl ?_
   exact ⟨_, rfl, by rw [HS.out, HV0.out]; rfl, (OwnClr.mk (own_put3 HO2.out.l HH.out (by decide)) (own_put3 HO2.out.d HH.out (by decide))).lower (by omega), below3 (HBX.out.trans (HB2.out.mono HBX.out.size)) (by omega)⟩
 clear HY0 HY1 HY2 HBX HCP hg2 HVL HVS
 by_cases k8 : q.kind = 8
 . by_cases h : (li.length : Int) < cap
   . exact hput ⟨k8, h⟩
   . exact hful ⟨k8, h⟩
 by_cases k9 : q.kind = 9
 . by_cases h : li.length = 0
   . exact hemp ⟨k9, h⟩
   . exact htak ⟨k9, by omega⟩
 by_cases k5 : q.kind = 5
 . exact hlen k5
 by_cases k6 : q.kind = 6
 . exact hcap k6
 exact hno ⟨k8, k9, k5, k6⟩
theorem pMay_any (k : Cse) (w : World) : Calls Tryz.prog 88 #[cseV k] w fun e w' => e = .returned (.bool (mayC k)) /\ Below w.heap.size w w' := by
 have HG : Hid (mayC k = ((k.dir == 1 || k.dir == 2) && inB k.handle 0 65535 && inB k.value 0 4294967295)) := Zd rfl
 have HB := Zd ((Below.refl w.heap.size w).alloc (Nat.le_refl _) (.cells #[.int .i64 k.dir, .int .i64 k.handle, .int .i64 k.value] 100))
 generalize mayC k = R at *
 unfold cseV
 cases e1 : (k.dir == 1) <;> cases e2 : (k.dir == 2)
 all_goals
  rw [e1, e2] at HG
  go_enter Tryz.func88, Tryz.ntmps88
  go_wp2_with (go_at_call 87; first | (with_reducible refine (pfits32 _ _).mono ?_; rintro e w' ⟨rfl, rfl⟩) | (with_reducible refine (pfits16 _ _).mono ?_; rintro e w' ⟨rfl, rfl⟩))
  all_goals
   go_ret
   refine ⟨ret_bool ?_, HB.out⟩
   rw [HG.out]
   simp [*]
def frontQ (q : Reqr) : Bool := inB q.kind 1 9 && inB q.arg 0 65535 && inB q.value 0 4294967295 && decide (q.n <= 3)
theorem fitsQ_front (q : Reqr) (l : List Cse) (h : l.length = q.n) : fitsQ (q.p l) = (frontQ q && l.all mayC) := by
 unfold fitsQ frontQ Reqr.p
 simp only [h]
theorem pFits_any (q : Reqr) (l : List Cse) (w : World) (h : ReqAt w q l) : Calls Tryz.prog 50 #[reqV q] w fun e w' => e = .returned (.bool (fitsQ (q.p l))) /\ Below w.heap.size w w' := by
 have HG : Hid (fitsQ (q.p l) = (frontQ q && l.all mayC)) := Zd (fitsQ_front q l h.len)
 have HF : Hid (frontQ q = (decide (1 <= q.kind) && decide (q.kind <= 9) && inB q.arg 0 65535 && inB q.value 0 4294967295 && decide (q.n <= 3))) := Zd rfl
 have HL := Zd h.len
 have HR := Zd h.rd
 generalize fitsQ (q.p l) = R at *
 have HB := Zd ((Below.refl w.heap.size w).alloc (Nat.le_refl _) (.cells #[.int .i64 q.kind, .int .i64 q.arg, .int .i64 q.value, .bool q.dflt, .slice q.A q.n q.c] 40))
 clear h
 obtain ⟨kind, arg, value, dflt, A, n, c⟩ := q
 simp only at HF HL HR HB
 unfold reqV
 simp only
 generalize frontQ ⟨kind, arg, value, dflt, A, n, c⟩ = fr at *
 have HA : Hid (1 <= kind /\ kind <= 9 /\ inB arg 0 65535 = true /\ inB value 0 4294967295 = true /\ n <= 3 -> fr = true) := Zd (fun ⟨a1, a2, a3, a4, a5⟩ => by rw [HF.out]; simp [a1, a2, a3, a4, a5])
 have HN : Hid (¬ (1 <= kind /\ kind <= 9 /\ inB arg 0 65535 = true /\ inB value 0 4294967295 = true /\ n <= 3) -> fr = false) := Zd (fun hn => by
  rw [HF.out]
  by_cases a1 : 1 <= kind <;> by_cases a2 : kind <= 9 <;> cases a3 : inB arg 0 65535 <;> cases a4 : inB value 0 4294967295 <;> by_cases a5 : n <= 3 <;> simp_all)
 clear HF
 by_cases hall : 1 <= kind /\ kind <= 9 /\ inB arg 0 65535 = true /\ inB value 0 4294967295 = true /\ n <= 3
 . rw [HA.out hall] at HG
   obtain ⟨a1, a2, a3, a4, a5⟩ := hall
   have a6 : (n : Int) <= 3 := by omega
   have HP16 := Zd (fun W => pfits16 arg W)
   have HP32 := Zd (fun W => pfits32 value W)
   rw [a3] at HP16
   rw [a4] at HP32
   clear a3 a4 HA HN
   go_enter Tryz.func50, Tryz.ntmps50
   go_wp2_with (go_at_call 87; first | (with_reducible refine (HP32.out _).mono ?_; rintro e w' ⟨rfl, rfl⟩) | (with_reducible refine (HP16.out _).mono ?_; rintro e w' ⟨rfl, rfl⟩))
   go_loopg [34] n (fun g i wr => ∃ k : Nat, k <= n /\ g = n - k /\ i = .int .i64 k /\ (∀ j, j < k -> mayC (l.getD j Cse.none) = true) /\ Below w.heap.size w wr)
   case atStart => exact ⟨0, Nat.zero_le _, rfl, rfl, fun j hj => absurd hj (by omega), HB.out⟩
   case round =>
    obtain ⟨k, hk, hg, rfl, hall, hb⟩ := hrel
    have HGG := Zd hg
    have HAL := Zd hall
    have HBW := Zd hb
    clear hg hall hb
    by_cases hlt : k < n
    . obtain ⟨b, o, rfl, hbl, hc⟩ := (HR.out.below HBW.out).at_ (by rw [rows_length]; simp only [Cellful.s]; have := HL.out; omega)
      obtain ⟨x0, x1, x2⟩ := cse_cells (k := k) (x := l.getD k Cse.none) hc (by have := HL.out; omega) rfl
      have HM := Zd (fun W => pMay_any (l.getD k Cse.none) W)
      have HKL := Zd (show k < l.length by have := HL.out; omega)
      have HBA := Zd (fun ob => HBW.out.alloc HBW.out.size ob)
      generalize hx : l.getD k Cse.none = x at *
      have HX := Zd hx
      unfold cseV at HM
      clear hc hx
      cases hm : mayC x
      . rw [hm] at HM
        go_wp2_with (refine (HM.out _).mono ?_; rintro er w1 ⟨rfl, hb1⟩; have HB1 := Zd hb1; clear hb1)
        go_ret
        refine ⟨ret_bool ?_, (HBA.out _).trans (HB1.out.mono (HBA.out _).size)⟩
        rw [HG.out]
        have : l.all mayC = false := by
         rw [List.all_eq_false]
         refine ⟨x, ?_, by simp [hm]⟩
         rw [<- HX.out]
         exact getD_mem HKL.out
        rw [this]; rfl
      . rw [hm] at HM
        go_wp2_with (refine (HM.out _).mono ?_; rintro er w1 ⟨rfl, hb1⟩; have HB1 := Zd hb1; clear hb1)
        go_roundg (n - (k + 1))
        case measure => rw [HGG.out]; omega
        case rel =>
         refine ⟨k + 1, by omega, rfl, by go_num, fun j hj => ?_, (HBA.out _).trans (HB1.out.mono (HBA.out _).size)⟩
         by_cases hjk : j = k
         . subst hjk; rw [HX.out]; exact hm
         . exact HAL.out j (by omega)
    . obtain rfl : k = n := by omega
      go_wp2_with fail
      go_ret
      refine ⟨ret_bool ?_, HBW.out⟩
      rw [HG.out]
      have : l.all mayC = true := by
       rw [List.all_eq_true]
       intro x hx
       obtain ⟨j, hj, rfl⟩ := List.getElem_of_mem hx
       have := HAL.out j (by have := HL.out; omega)
       simpa [List.getD, hj] using this
      rw [this]; rfl
 . rw [HN.out hall] at HG
   have hor : ¬ 1 <= kind ∨ (1 <= kind /\ ¬ kind <= 9) ∨ (1 <= kind /\ kind <= 9 /\ inB arg 0 65535 = false) ∨ (1 <= kind /\ kind <= 9 /\ inB arg 0 65535 = true /\ inB value 0 4294967295 = false) ∨ (1 <= kind /\ kind <= 9 /\ inB arg 0 65535 = true /\ inB value 0 4294967295 = true /\ 3 < n) := by
    by_cases a1 : 1 <= kind <;> by_cases a2 : kind <= 9 <;> cases a3 : inB arg 0 65535 <;> cases a4 : inB value 0 4294967295 <;> simp_all
   have HP16 := Zd (fun W => pfits16 arg W)
   have HP32 := Zd (fun W => pfits32 value W)
   clear hall HA HN
   rcases hor with a1 | ⟨a1, a2⟩ | ⟨a1, a2, a3⟩ | ⟨a1, a2, a3, a4⟩ | ⟨a1, a2, a3, a4, a5⟩
   all_goals
    try rw [a3] at HP16
    try rw [a4] at HP32
    try (have a6 : (3 : Int) < (n : Int) := by omega)
    try clear a3
    try clear a4
    go_enter Tryz.func50, Tryz.ntmps50
    go_wp2_with (go_at_call 87; first | (with_reducible refine (HP32.out _).mono ?_; rintro e w' ⟨rfl, rfl⟩) | (with_reducible refine (HP16.out _).mono ?_; rintro e w' ⟨rfl, rfl⟩))
    go_ret
    exact ⟨ret_bool (by rw [HG.out]; rfl), HB.out⟩
section
open Go.RowKit Go.Sort Go.Maps
structure Nte where
 (kind thread seq time rkind rarg rvalue : Int)
 (rdef : Bool)
 (ca : Option Addr)
 (cl cc : Nat)
 (qseq qcase qcode qvalue : Int)
def Nte.cells (a : Nte) : List Value := [.int .i64 a.kind, .int .i64 a.thread, .int .i64 a.seq, .int .i64 a.time, .int .i64 a.rkind, .int .i64 a.rarg, .int .i64 a.rvalue, .bool a.rdef, .slice a.ca a.cl a.cc, .int .i64 a.qseq, .int .i64 a.qcase, .int .i64 a.qcode, .int .i64 a.qvalue]
def Nte.none : Nte := ⟨0, 0, 0, 0, 0, 0, 0, false, .none, 0, 0, 0, 0, 0, 0⟩
abbrev nbox (a : Nte) : Obj := .cells #[.int .i64 a.kind, .int .i64 a.thread, .int .i64 a.seq, .int .i64 a.time, .int .i64 a.rkind, .int .i64 a.rarg, .int .i64 a.rvalue, .bool a.rdef, .slice a.ca a.cl a.cc, .int .i64 a.qseq, .int .i64 a.qcase, .int .i64 a.qcode, .int .i64 a.qvalue] 44
instance : Cellful Nte where
 cells := Nte.cells
 s := 13
 dflt := Nte.none
 len := fun _ => rfl
 one := fun a u hu => by
  simp only [Nte.cells, List.mem_cons, List.not_mem_nil, or_false] at hu
  rcases hu with rfl | rfl | rfl | rfl | rfl | rfl | rfl | rfl | rfl | rfl | rfl | rfl | rfl <;> rfl
end
section
open Go.RowKit Go.Sort Go.Maps
theorem note_cells {w : World} {b o : Nat} {l : List Nte} (hc : ∀ k v, (rows l)[k]? = some v -> w.cell? ⟨b, o + k, none⟩ = some v) {k : Nat} (hk : k < l.length) {x : Nte} (hx : l.getD k Nte.none = x) :
  w.cell? ⟨b, o + k * 13, none⟩ = some (.int .i64 x.kind) /\ w.cell? ⟨b, o + k * 13 + 1, none⟩ = some (.int .i64 x.thread) /\ w.cell? ⟨b, o + k * 13 + 2, none⟩ = some (.int .i64 x.seq) /\ w.cell? ⟨b, o + k * 13 + 3, none⟩ = some (.int .i64 x.time) /\
  w.cell? ⟨b, o + k * 13 + 4, none⟩ = some (.int .i64 x.rkind) /\ w.cell? ⟨b, o + k * 13 + 5, none⟩ = some (.int .i64 x.rarg) /\ w.cell? ⟨b, o + k * 13 + 6, none⟩ = some (.int .i64 x.rvalue) /\ w.cell? ⟨b, o + k * 13 + 7, none⟩ = some (.bool x.rdef) /\
  w.cell? ⟨b, o + k * 13 + 8, none⟩ = some (.slice x.ca x.cl x.cc) /\ w.cell? ⟨b, o + k * 13 + 9, none⟩ = some (.int .i64 x.qseq) /\ w.cell? ⟨b, o + k * 13 + 10, none⟩ = some (.int .i64 x.qcase) /\ w.cell? ⟨b, o + k * 13 + 11, none⟩ = some (.int .i64 x.qcode) /\ w.cell? ⟨b, o + k * 13 + 12, none⟩ = some (.int .i64 x.qvalue) := by
 have h := rec_cell hc hk hx
 exact ⟨h 0 _ rfl, h 1 _ rfl, h 2 _ rfl, h 3 _ rfl, h 4 _ rfl, h 5 _ rfl, h 6 _ rfl, h 7 _ rfl, h 8 _ rfl, h 9 _ rfl, h 10 _ rfl, h 11 _ rfl, h 12 _ rfl⟩
theorem grown_cell {w w' : World} {row : Option Nat} (hg : w.grownBy w' row) {p : Addr} (hlt : p.block < w.heap.size) (hne : some p.block ≠ row) : w'.cell? p = w.cell? p := World.cell?_of_block (hg.block _ hlt hne)
end
section
def upd {α : Type} (f : Nat -> α) (i : Nat) (x : α) : Nat -> α := fun j => if j = i then x else f j
theorem upd_at {α : Type} (f : Nat -> α) (i : Nat) (x : α) (j : Nat) : upd f i x j = if j = i then x else f j := rfl
end
def Nte.p (x : Nte) (cs : List Cse) : NtP := ⟨x.kind, x.thread, x.seq, ⟨x.rkind, x.rarg, x.rvalue, x.rdef, cs⟩, ⟨x.qseq, x.qcase, x.qcode, x.qvalue⟩⟩
theorem set_upd {α : Type} (l : List α) (d : α) {t : Nat} (h : t < l.length) (y : α) : (fun u => (l.set t y).getD u d) = upd (fun u => l.getD u d) t y := by
 funext u
 rw [upd_at]
 by_cases e : u = t
 . subst e; rw [if_pos rfl]; simp [List.getD, h]
 . rw [if_neg e]; simp [List.getD, Ne.symm e]
theorem set_at {α : Type} (l : List α) (d : α) {t : Nat} (h : t < l.length) (y : α) (u : Nat) : (l.set t y).getD u d = if u = t then y else l.getD u d := by
 have := congrFun (set_upd l d h y) u
 simpa [upd_at] using this
theorem know_step {th : Nat} {PS : List NtP} {K : List KnP} {k : Nat} (hk : knowK th PS k = some K) (hs : ∃ K', knowK th PS (k + 1) = some K') :
  noteOk K (PS.getD k NtP.none) = true /\ knowK th PS (k + 1) = some (nextK K (PS.getD k NtP.none)) := by
 obtain ⟨K', h⟩ := hs
 have h0 := h
 rw [knowK, hk] at h
 simp only at h
 split at h
 . rename_i h1
   refine ⟨h1, ?_⟩
   rw [knowK, hk]
   simp only [h1, if_true]
 . cases h
theorem nextK_at {K : List KnP} {n : NtP} (h : inL K.length n.thread) (u : Nat) : (nextK K n).getD u KnP.none = if u = n.thread.toNat then stepK (K.getD n.thread.toNat KnP.none) n else K.getD u KnP.none := by
 unfold inL at h
 exact set_at K KnP.none (by omega) _ u
section
end
structure Opr where
 (q : Reqr)
 (seq : Int)
 (on applied : Bool)
def Reqr.none : Reqr := ⟨0, 0, 0, false, .none, 0, 0⟩
def Opr.none : Opr := ⟨Reqr.none, 0, false, false⟩
def Opr.cells (a : Opr) : List Value := [.int .i64 a.q.kind, .int .i64 a.q.arg, .int .i64 a.q.value, .bool a.q.dflt, .slice a.q.A a.q.n a.q.c, .int .i64 a.seq, .bool a.on, .bool a.applied]
abbrev oprV (a : Opr) : Value := .agg #[.int .i64 a.q.kind, .int .i64 a.q.arg, .int .i64 a.q.value, .bool a.q.dflt, .slice a.q.A a.q.n a.q.c, .int .i64 a.seq, .bool a.on, .bool a.applied]
instance : Cellful Opr where
 cells := Opr.cells
 s := 8
 dflt := Opr.none
 len := fun _ => rfl
 one := fun a u hu => by
  simp only [Opr.cells, List.mem_cons, List.not_mem_nil, or_false] at hu
  rcases hu with rfl | rfl | rfl | rfl | rfl | rfl | rfl | rfl <;> rfl
theorem opr_cells {w : World} {b o : Nat} {l : List Opr} (hc : ∀ k v, (rows l)[k]? = some v -> w.cell? ⟨b, o + k, none⟩ = some v) {k : Nat} (hk : k < l.length) {x : Opr} (hx : l.getD k Opr.none = x) :
  w.cell? ⟨b, o + k * 8, none⟩ = some (.int .i64 x.q.kind) /\ w.cell? ⟨b, o + k * 8 + 1, none⟩ = some (.int .i64 x.q.arg) /\ w.cell? ⟨b, o + k * 8 + 2, none⟩ = some (.int .i64 x.q.value) /\ w.cell? ⟨b, o + k * 8 + 3, none⟩ = some (.bool x.q.dflt) /\
  w.cell? ⟨b, o + k * 8 + 4, none⟩ = some (.slice x.q.A x.q.n x.q.c) /\ w.cell? ⟨b, o + k * 8 + 5, none⟩ = some (.int .i64 x.seq) /\ w.cell? ⟨b, o + k * 8 + 6, none⟩ = some (.bool x.on) /\ w.cell? ⟨b, o + k * 8 + 7, none⟩ = some (.bool x.applied) := by
 have h := rec_cell hc hk hx
 exact ⟨h 0 _ rfl, h 1 _ rfl, h 2 _ rfl, h 3 _ rfl, h 4 _ rfl, h 5 _ rfl, h 6 _ rfl, h 7 _ rfl⟩
abbrev nteV (a : Nte) : Value := .agg #[.int .i64 a.kind, .int .i64 a.thread, .int .i64 a.seq, .int .i64 a.time, .int .i64 a.rkind, .int .i64 a.rarg, .int .i64 a.rvalue, .bool a.rdef, .slice a.ca a.cl a.cc, .int .i64 a.qseq, .int .i64 a.qcase, .int .i64 a.qcode, .int .i64 a.qvalue]
def Nte.q (a : Nte) : Reqr := ⟨a.rkind, a.rarg, a.rvalue, a.rdef, a.ca, a.cl, a.cc⟩
def folB (x : Opr) (n : Nte) (fit : Bool) : Bool :=
 if n.kind = 1 then !x.on && (decide (n.seq = 0) || decide (x.seq < n.seq)) && fit
 else if n.kind = 2 ∨ n.kind = 3 then x.on && decide (n.seq = if x.applied = true then 0 else x.seq) else false
theorem hFollows_any (x : Opr) (n : Nte) (l : List Cse) (w : World) (h : ReqAt w n.q l) :
  Calls Tryz.prog 21 #[oprV x, nteV n] w fun e w' => e = .returned (.bool (folB x n (fitsQ (n.q.p l)))) /\ Below w.heap.size w w' := by
 have HV : Hid (folB x n (fitsQ (n.q.p l)) = if n.kind = 1 then !x.on && (decide (n.seq = 0) || decide (x.seq < n.seq)) && fitsQ (n.q.p l)
  else if n.kind = 2 ∨ n.kind = 3 then x.on && decide (n.seq = if x.applied = true then 0 else x.seq) else false) := Zd rfl
 have HB := Zd (below_two w (.cells #[.int .i64 x.q.kind, .int .i64 x.q.arg, .int .i64 x.q.value, .bool x.q.dflt, .slice x.q.A x.q.n x.q.c, .int .i64 x.seq, .bool x.on, .bool x.applied] 63) (.cells #[.int .i64 n.kind, .int .i64 n.thread, .int .i64 n.seq, .int .i64 n.time, .int .i64 n.rkind, .int .i64 n.rarg, .int .i64 n.rvalue, .bool n.rdef, .slice n.ca n.cl n.cc, .int .i64 n.qseq, .int .i64 n.qcase, .int .i64 n.qcode, .int .i64 n.qvalue] 44))
 have HF := Zd (fun W (hb : Below w.heap.size w W) => pFits_any n.q l W (h.below hb))
 clear h
 generalize fitsQ ((Nte.q n).p l) = F at *
 unfold reqV Nte.q at HF
 simp only at HF
 generalize folB x n F = R at *
 obtain ⟨⟨xk, xa, xv, xd, xA, xn, xc⟩, xs, xo, xp⟩ := x
 simp only at HV HB
 unfold oprV nteV
 simp only
 by_cases k1 : n.kind = 1
 . rw [if_pos k1] at HV
   have e1 : (n.kind == 1) = true := by simp [k1]
   clear k1
   cases xo
   . by_cases k4 : n.seq = 0 <;> by_cases k5 : xs < n.seq <;> cases xp
     all_goals
      have e4 : (n.seq == 0) = decide (n.seq = 0) := rfl
      first | rw [decide_eq_true k4] at e4 | rw [decide_eq_false k4] at e4
      first | rw [decide_eq_true k4] at HV | rw [decide_eq_false k4] at HV
      first | rw [decide_eq_true k5] at HV | rw [decide_eq_false k5] at HV
      clear k4
      go_enter Tryz.func21, Tryz.ntmps21
      go_wp2_with (refine (HF.out _ HB.out).mono ?_; rintro er w1 ⟨rfl, hb1⟩; have HB1 := Zd (btr HB.out hb1); clear hb1)
      all_goals
       go_ret
       refine ⟨ret_bool ?_, by first | exact HB1.out | exact HB.out⟩
       rw [HV.out]
       rfl
   . cases xp
     all_goals
      go_enter Tryz.func21, Tryz.ntmps21
      go_wp2_with fail
      go_ret
      exact ⟨ret_bool (by rw [HV.out]; rfl), HB.out⟩
 . rw [if_neg k1] at HV
   have e1 : (n.kind == 1) = false := by simp [k1]
   by_cases k23 : n.kind = 2 ∨ n.kind = 3
   . rw [if_pos k23] at HV
     rcases k23 with k2 | k3
     . have e2 : (n.kind == 2) = true := by simp [k2]
       clear k1 k2
       cases xo <;> cases xp
       all_goals
        go_enter Tryz.func21, Tryz.ntmps21
        go_wp2_with fail
        all_goals
         go_ret
         refine ⟨ret_bool ?_, HB.out⟩
         rw [HV.out]
         first | rfl | (simp [*]; done) | (simp; omega) | grind
     . have e2 : (n.kind == 2) = false := by simp [k3]
       have e3 : (n.kind == 3) = true := by simp [k3]
       clear k1 k3
       cases xo <;> cases xp
       all_goals
        go_enter Tryz.func21, Tryz.ntmps21
        go_wp2_with fail
        all_goals
         go_ret
         refine ⟨ret_bool ?_, HB.out⟩
         rw [HV.out]
         first | rfl | (simp [*]; done) | (simp; omega) | grind
   . rw [if_neg k23] at HV
     have e2 : (n.kind == 2) = false := by simp; omega
     have e3 : (n.kind == 3) = false := by simp; omega
     clear k1 k23
     cases xp
     all_goals
      go_enter Tryz.func21, Tryz.ntmps21
      go_wp2_with fail
      go_ret
      exact ⟨ret_bool (by rw [HV.out]), HB.out⟩
theorem hNone_any (n : Nte) (w : World) : Calls Tryz.prog 71 #[nteV n] w fun e w' => e = .returned (.bool (decide (n.kind = 3) && (decide (n.qcode = 6) || decide (n.qcode = 7)))) /\ Below w.heap.size w w' := by
 have HB := Zd ((Below.refl w.heap.size w).alloc (Nat.le_refl _) (.cells #[.int .i64 n.kind, .int .i64 n.thread, .int .i64 n.seq, .int .i64 n.time, .int .i64 n.rkind, .int .i64 n.rarg, .int .i64 n.rvalue, .bool n.rdef, .slice n.ca n.cl n.cc, .int .i64 n.qseq, .int .i64 n.qcase, .int .i64 n.qcode, .int .i64 n.qvalue] 44))
 unfold nteV
 generalize hR : (decide (n.kind = 3) && (decide (n.qcode = 6) || decide (n.qcode = 7))) = R
 have HR := Zd hR
 clear hR
 cases e1 : (n.kind == 3) <;> cases e2 : (n.qcode == 6) <;> cases e3 : (n.qcode == 7)
 all_goals
  have HG : Hid ((n.kind == 3) = decide (n.kind = 3) /\ (n.qcode == 6) = decide (n.qcode = 6) /\ (n.qcode == 7) = decide (n.qcode = 7)) := Zd ⟨rfl, rfl, rfl⟩
  rw [e1, e2, e3] at HG
  go_enter Tryz.func71, Tryz.ntmps71
  go_wp2_with fail
  go_ret
  refine ⟨ret_bool ?_, HB.out⟩
  have g := HG.out
  rw [<- HR.out, <- g.1, <- g.2.1, <- g.2.2]
  try rfl
structure KnIs (x : Opr) (k : KnP) : Prop where
 on : x.on = k.on
 last : x.seq = k.last
 seq : k.seq = if x.applied = true then 0 else x.seq
theorem knIs_none : KnIs Opr.none KnP.none := ⟨rfl, rfl, rfl⟩
theorem KnIs.follows {x : Opr} {k : KnP} (h : KnIs x k) (n : Nte) (cs : List Cse) : folB x n (fitsQ (n.q.p cs)) = followsB k (n.p cs) := by
 unfold folB followsB
 rw [h.on, h.seq, <- h.last]
 rfl
def stepO (x : Opr) (n : Nte) : Opr :=
 if n.kind = 1 then ⟨n.q, max n.seq x.seq, true, decide (n.seq = 0)⟩ else if n.kind = 3 then ⟨x.q, x.seq, false, x.applied⟩ else x
theorem KnIs.step {x : Opr} {k : KnP} (h : KnIs x k) {n : Nte} {cs : List Cse} (hf : followsB k (n.p cs) = true) (h0 : 0 <= k.last) (hn : 0 <= n.seq) : KnIs (stepO x n) (stepK k (n.p cs)) /\ 0 <= (stepK k (n.p cs)).last := by
 have e1 : (n.p cs).kind = n.kind := rfl
 have e2 : (n.p cs).seq = n.seq := rfl
 unfold stepO stepK
 unfold followsB at hf
 rw [e1, e2] at hf
 rw [e1, e2]
 by_cases k1 : n.kind = 1
 . simp only [if_pos k1] at hf ⊢
   simp only [Bool.and_eq_true, Bool.or_eq_true, decide_eq_true_eq] at hf
   refine ⟨⟨rfl, ?_, ?_⟩, ?_⟩
   . show max n.seq x.seq = max k.last n.seq
     rw [h.last, Int.max_comm]
   . show n.seq = if decide (n.seq = 0) = true then 0 else max n.seq x.seq
     rw [h.last]
     by_cases e : n.seq = 0
     . simp [e]
     . have := hf.1.2.resolve_left e
       simp only [e, decide_false]
       simp
       omega
   . show 0 <= max k.last n.seq
     omega
 . simp only [if_neg k1]
   by_cases k3 : n.kind = 3
   . simp only [if_pos k3]
     exact ⟨⟨rfl, h.last, h.seq⟩, h0⟩
   . simp only [if_neg k3]
     exact ⟨h, h0⟩
structure KnL (L : List Opr) (K : List KnP) : Prop where
 len : L.length = K.length
 is_ : ∀ t, t < L.length -> KnIs (L.getD t Opr.none) (K.getD t KnP.none) /\ 0 <= (K.getD t KnP.none).last
theorem knL_start (n : Nat) : KnL (List.replicate n Opr.none) (List.replicate n KnP.none) := by
 refine ⟨by simp, fun t ht => ?_⟩
 have e1 : (List.replicate n Opr.none).getD t Opr.none = Opr.none := by
  simp only [List.getD_eq_getElem?_getD, List.getElem?_replicate]; split <;> rfl
 have e2 : (List.replicate n KnP.none).getD t KnP.none = KnP.none := by
  simp only [List.getD_eq_getElem?_getD, List.getElem?_replicate]; split <;> rfl
 rw [e1, e2]
 exact ⟨knIs_none, Int.le_refl _⟩
theorem KnL.next {L : List Opr} {K : List KnP} (h : KnL L K) {n : Nte} {cs : List Cse} (hok : noteOk K (n.p cs) = true) : KnL (L.set n.thread.toNat (stepO (L.getD n.thread.toNat Opr.none) n)) (nextK K (n.p cs)) := by
 have hl := h.len
 have hin : inL K.length n.thread /\ inB n.seq 0 1048575 = true /\ followsB (K.getD n.thread.toNat KnP.none) (n.p cs) = true := by
  simp only [noteOk, Bool.and_eq_true, decide_eq_true_eq] at hok
  exact ⟨hok.1.1, hok.1.2, hok.2⟩
 have ht : n.thread.toNat < L.length := by
  have := hin.1
  unfold inL at this
  omega
 have hs : 0 <= n.seq := by
  have := hin.2.1
  unfold inB at this
  simp only [Bool.and_eq_true, decide_eq_true_eq] at this
  omega
 refine ⟨by simp [nextK, hl], fun u hu => ?_⟩
 simp only [List.length_set] at hu
 rw [nextK_at hin.1, set_at L Opr.none ht]
 by_cases e : u = n.thread.toNat
 . rw [if_pos e]
   have e2 : u = (n.p cs).thread.toNat := e
   rw [if_pos e2]
   exact (h.is_ _ ht).1.step hin.2.2 (h.is_ _ ht).2 hs
 . rw [if_neg e]
   have e2 : ¬ u = (n.p cs).thread.toNat := e
   rw [if_neg e2]
   exact h.is_ u hu
theorem knowK_none {threads : Nat} {ns : List NtP} : ∀ d k, knowK threads ns k = none -> knowK threads ns (k + d) = none
 | 0, _, h => h
 | d + 1, k, h => by
   have e : k + (d + 1) = (k + d) + 1 := by omega
   rw [e, knowK, knowK_none d k h]
theorem checkS_bad {c : Cfg} {ns : List NtP} {k : Nat} {K : List KnP} (hc : chkB c = true) (hk : k < ns.length) (h : knowK c.threads.toNat ns k = some K) (hn : noteOk K (ns.getD k NtP.none) = false) : checkS c ns = 3 := by
 have h1 : knowK c.threads.toNat ns (k + 1) = none := by
  rw [knowK, h]
  simp only [hn]
  simp
 have h2 := knowK_none (ns.length - (k + 1)) _ h1
 rw [show k + 1 + (ns.length - (k + 1)) = ns.length by omega] at h2
 unfold checkS
 rw [h2, if_neg (by simp [hc])]
theorem checkS_end {c : Cfg} {ns : List NtP} {K : List KnP} (hc : chkB c = true) (h : knowK c.threads.toNat ns ns.length = some K) : checkS c ns = if 8 < callsK ns ns.length then 4 else 0 := by
 unfold checkS
 rw [h, if_neg (by simp [hc])]
theorem knowK_next {threads : Nat} {ns : List NtP} {k : Nat} {K : List KnP} (h : knowK threads ns k = some K) (hn : noteOk K (ns.getD k NtP.none) = true) : knowK threads ns (k + 1) = some (nextK K (ns.getD k NtP.none)) := by
 rw [knowK, h]
 simp only [hn, if_true]
theorem callsK_le {ns : List NtP} : ∀ k, callsK ns k <= k
 | 0 => Nat.le_refl _
 | k + 1 => by
   have := callsK_le (ns := ns) k
   rw [callsK]
   split <;> omega
theorem rs_none (n : Nat) : rows (List.replicate n Resr.none) = List.replicate (n * 4) (.int .i64 0) := by
 induction n with
 | zero => rfl
 | succ n ih => rw [List.replicate_succ, rows_cons, ih, Nat.succ_mul, Nat.add_comm, <- List.replicate_append_replicate]; rfl
theorem rs_cells (n : Nat) : madeCells (rsV Resr.none).cells (n * 4) = (rows (List.replicate n Resr.none)).toArray := by
 rw [rs_none]
 apply Array.ext
 . simp [madeCells]
 . intro j h1 h2
   have h5 : j % 4 = 0 ∨ j % 4 = 1 ∨ j % 4 = 2 ∨ j % 4 = 3 := by omega
   rcases h5 with h | h | h | h <;> simp [madeCells, Value.cells, Resr.none, h]
theorem make_rs (n : Nat) (hn : n <= 1048576) (w : World) :
  (Instr.makeSlice 85 (.int .i64 (n : Int)) (.int .i64 (n : Int))).run Tryz.prog w = .ok (.slice (some ⟨w.heap.size, 0, none⟩) n n) (w.alloc (.cells (rows (List.replicate n Resr.none)).toArray 42)) := by
 obtain ⟨i, hi, hz, hs, hb⟩ := info_parts CloneRs_info
 have hr := run_make (P := Tryz.prog) w 85 42 i (rsV Resr.none) Tryz.underlying85 hi hz .i64 .i64 n n (by omega) (by omega) (by rw [hb]; omega) (by omega)
 simp only [Int.toNat_natCast] at hr
 rw [hr, hs, rs_cells]
theorem fNew_any (cap : Int) (n : Nat) (w : World) (h1 : 1 <= n) (h64 : n <= 64) :
  Calls Tryz.prog 40 #[.int .i64 cap, .int .i64 n] w (RetClr ⟨cap, [], List.replicate n Resr.none⟩ w) := by
 have hmk := fun W => make_rs n (by omega) W
 have m1 : (n : Int) <= 64 := by omega
 have m2 : (0 : Int) <= (n : Int) := by omega
 have HLN : Hid ((List.replicate n Resr.none).length = n) := Zd (by simp)
 generalize List.replicate n Resr.none = L at *
 have HR := Zd (rows_length L)
 clear h1 h64
 go_enter Tryz.func40, Tryz.ntmps40
 go_wp2
 have el : L.length = n := HLN.out
 have hbk := (Blk.new w 91 [.int .i64 cap, .slice none 0 0, .slice (some ⟨w.heap.size + 1, 0, none⟩) n n]).alloc (.cells (rows L).toArray 42)
 refine bodyPost_ret (v := clrV ⟨cap, .none, 0, [], some ⟨w.heap.size + 1, 0, none⟩, n, L⟩) (ret_cell (g := w.heap.size) rfl rfl (clr_load (x := ⟨cap, .none, 0, [], some ⟨w.heap.size + 1, 0, none⟩, n, L⟩) hbk (by simp only [Clr.cells, el]; rfl))) rfl ?_
 refine ⟨⟨cap, .none, 0, [], some ⟨w.heap.size + 1, 0, none⟩, n, L⟩, rfl, rfl, ⟨own_nil _ _ _ _, ?_⟩, below_two _ _ _⟩
 simp only [el]
 exact own_blk1 (blk_new (by simp)) (by omega) (by rw [HR.out, el]; rfl) (by unfold maxLen; omega)
structure ObjOk (c : Cfg) : Prop where
 start : ∀ w, CfgIn w c -> Calls Tryz.prog 17 #[cfgV c] w (RetWords (startO c) w)
 apply : ∀ (A : Option Addr) (c0 : Nat) (L : List Int) (t seq : Int) (q : Reqr) (l : List Cse) (w : World), CfgIn w c -> Rd w A (words L) -> L.length <= c0 -> L.length <= 1048576 -> (∀ x ∈ L, 0 <= x /\ x < 18446744073709551616) -> ReqAt w q l -> l.length <= 1048576 ->
  Calls Tryz.prog 72 #[cfgV c, .slice A L.length c0, .int .i64 t, .int .i64 seq, reqV q] w (RetWords (applyO c L t seq (q.p l)) w)
 done : ∀ (A : Option Addr) (c0 : Nat) (L : List Int) (t : Int) (w : World), CfgIn w c -> Rd w A (words L) -> L.length <= 1048576 -> 0 <= t -> t <= 4096 ->
  Calls Tryz.prog 103 #[cfgV c, .slice A L.length c0, .int .i64 t] w fun e w' => e = .returned (.int .u64 (doneO c L t)) /\ Below w.heap.size w w'
 big : ∀ (L : List Int) (t seq : Int) (q : ReqP), (∀ x ∈ L, 0 <= x /\ x < 18446744073709551616) -> ∀ x ∈ applyO c L t seq q, 0 <= x /\ x < 18446744073709551616
 big0 : ∀ x ∈ startO c, 0 <= x /\ x < 18446744073709551616
theorem resI_big (r : Resr) : 0 <= resI r /\ resI r < 18446744073709551616 := by
 unfold resI
 split
 . rename_i h
   simp only [goodR, inB, Bool.and_eq_true, decide_eq_true_eq] at h
   omega
 . omega
theorem cellsI_big {c : Cfg} {x : CellsP} (hc : chkB c = true) (hf : FitC c x) : ∀ v ∈ cellsI c.cap x, 0 <= v /\ v < 18446744073709551616 := by
 intro v hv
 have hb := chk_cap hc
 have h1 := hf.few
 unfold cellsI at hv
 rw [List.mem_append, List.mem_append, List.mem_singleton] at hv
 rcases hv with (rfl | hv) | hv
 . omega
 . unfold rowI at hv
   rw [List.mem_map] at hv
   obtain ⟨i, _, rfl⟩ := hv
   split
   . rename_i hi
     have := hf.vals _ (getD_mem (d := 0) hi)
     simp only [inB, Bool.and_eq_true, decide_eq_true_eq] at this
     omega
   . omega
 . rw [List.mem_map] at hv
   obtain ⟨r, _, rfl⟩ := hv
   exact resI_big r
theorem applyO_big {c : Cfg} (hk : ¬ c.kind = 3) (L : List Int) (t seq : Int) (q : ReqP) (h : ∀ x ∈ L, 0 <= x /\ x < 18446744073709551616) : ∀ x ∈ applyO c L t seq q, 0 <= x /\ x < 18446744073709551616 := by
 unfold applyO
 split
 . exact h
 . rename_i hg
   try rw [if_neg hk]
   cases hr : readC c L with
   | none => exact h
   | some y =>
     obtain ⟨h1, h2, h3, _, _⟩ := readC_fit hr
     have hs : inB seq 0 1048575 = true := by simp only [inB, Bool.and_eq_true, decide_eq_true_eq]; omega
     have hq : fitsQ q = true := by
      cases h : fitsQ q
      . exact absurd (Or.inr (Or.inr (Or.inr (Or.inr h)))) hg
      . rfl
     have h5 := applyC_ok (t := t) (decide (c.kind = 2)) h1 h3 hs hq
     simp only [putC, (fitsC_iff h1 h2).2 h5, if_true]
     exact cellsI_big h1 h5
theorem startO_big {c : Cfg} (hk : ¬ c.kind = 3) : ∀ x ∈ startO c, 0 <= x /\ x < 18446744073709551616 := by
 unfold startO
 split
 . rename_i hc
   have hf := startC_fit hc
   try rw [if_neg hk]
   rw [putC, if_pos ((fitsC_iff hc hk).2 hf)]
   exact cellsI_big hc hf
 . intro x hx; cases hx
def setsAt (w : World) (g : Nat) : Nat -> List Value -> World
 | _, [] => w
 | o, v :: r => setsAt (w.setCell ⟨g, o, none⟩ v) g (o + 1) r
def setL (xs : List Value) : Nat -> List Value -> List Value
 | _, [] => xs
 | o, v :: r => setL (xs.set o v) (o + 1) r
theorem setL_eq : ∀ (vs xs : List Value) (o : Nat), o + vs.length <= xs.length -> setL xs o vs = xs.take o ++ vs ++ xs.drop (o + vs.length)
 | [], xs, o, _ => by simp [setL]
 | v :: r, xs, o, h => by
   simp only [List.length_cons] at h
   rw [setL, setL_eq r (xs.set o v) (o + 1) (by simp; omega)]
   have h1 : (xs.set o v).take (o + 1) = xs.take o ++ [v] := by
    rw [List.take_succ_eq_append_getElem (by simp; omega), List.take_set_of_le (Nat.le_refl _)]
    simp
   have h2 : (xs.set o v).drop (o + 1 + r.length) = xs.drop (o + (v :: r).length) := by
    rw [List.drop_set_of_lt (by omega), List.length_cons]
    congr 1; omega
   rw [h1, h2]
   simp
theorem rows_whole {α : Type} [C : Cellful α] (l : List α) {k : Nat} (hk : k < l.length) (y : α) : setL (rows l) (k * C.s) (C.cells y) = rows (l.set k y) := by
 have hs : k * C.s + C.s <= l.length * C.s := by
  have := Nat.mul_le_mul_right C.s (show k + 1 <= l.length by omega)
  rw [Nat.succ_mul] at this; exact this
 rw [setL_eq _ _ _ (by rw [C.len, rows_length]; exact hs), C.len, rows_take, show k * C.s + C.s = (k + 1) * C.s by rw [Nat.succ_mul], rows_drop, List.set_eq_take_append_cons_drop, if_pos hk, rows_append, rows_cons, List.append_assoc]
theorem own_setsAt {base : Nat} {e : TypeId} {s n g c : Nat} (hn : 0 < n) : ∀ (vs : List Value) (w : World) (xs : List Value) (o : Nat), w.ownsRow base e s (.slice (some ⟨g, 0, none⟩) n c) n xs -> o + vs.length <= n * s ->
  (setsAt w g o vs).ownsRow base e s (.slice (some ⟨g, 0, none⟩) n c) n (setL xs o vs)
 | [], _, _, _, h, _ => h
 | v :: r, w, xs, o, h, hl => by
   simp only [List.length_cons] at hl
   exact own_setsAt hn r _ _ _ (own_put h hn o v (by omega) rfl) (by omega)
theorem own_whole {α : Type} [C : Cellful α] {base : Nat} {w : World} {e : TypeId} {g n c : Nat} {l : List α} (h : w.ownsRow base e C.s (.slice (some ⟨g, 0, none⟩) n c) n (rows l)) (hl : l.length = n) {k : Nat} (hk : k < n) (y : α) :
  (setsAt w g (k * C.s) (C.cells y)).ownsRow base e C.s (.slice (some ⟨g, 0, none⟩) n c) n (rows (l.set k y)) := by
 rw [<- rows_whole l (by omega) y]
 refine own_setsAt (by omega) _ _ _ _ h ?_
 rw [C.len]
 have := Nat.mul_le_mul_right C.s (show k + 1 <= n by omega)
 rw [Nat.succ_mul] at this; exact this
theorem below_setsAt {B : Nat} {a : World} {g : Nat} (hg : B <= g) : ∀ (vs : List Value) (w : World) (o : Nat), Below B a w -> Below B a (setsAt w g o vs)
 | [], _, _, h => h
 | v :: r, _, o, h => below_setsAt hg r _ _ (h.setCell (p := ⟨g, o, none⟩) hg v)
theorem setsAt_other {g : Nat} : ∀ (vs : List Value) (w : World) (o k : Nat), k ≠ g -> (setsAt w g o vs).heap[k]? = w.heap[k]?
 | [], _, _, _, _ => rfl
 | v :: r, w, o, k, h => (setsAt_other r _ _ k h).trans (Below.heap_setCell w ⟨g, o, none⟩ v k h)
theorem Blk.sets {w : World} {g k : Nat} {t : TypeId} {cs : List Value} (h : Blk w k t cs) (hne : k ≠ g) (o : Nat) (vs : List Value) : Blk (setsAt w g o vs) k t cs := (setsAt_other vs w o k hne).trans h
theorem own_setsTy {e e' : TypeId} {base s n g : Nat} {v : Value} {xs : List Value} (hne : e ≠ e') : ∀ (vs : List Value) (w : World) (cur : Array Value) (o : Nat), w.ownsRow base e s v n xs -> w.heap[g]? = some (.cells cur e' (0, 0)) -> (setsAt w g o vs).ownsRow base e s v n xs
 | [], _, _, _, h, _ => h
 | u :: r, w, cur, o, h, hg => by
   refine own_setsTy hne r _ (cur.setIfInBounds o u) _ (own_ty h hg hne o u) ?_
   simp [World.setCell, Array.getElem?_modify, hg]
end Go.Proofs.YtieglgahfeecbaaGreatDoor
