/- chans: something is done with a channel: walked. -/
import Derived.Test.YtieglgahfeecbaaGreatDoorP19
set_option maxHeartbeats 64000000
set_option maxRecDepth 100000
namespace Go.Proofs.YtieglgahfeecbaaGreatDoor
open Go.RowKit Go.Sort
theorem cDo_any (x : Chn) (handle : Int) (A : Option Addr) (n c : Nat) (l : List Wtr) (dir value : Int) (w : World) (h : WtsAt w A n l) (hx : ChAt w x) :
  Calls Tryz.prog 211 #[chnV x, .int .i64 handle, .slice A n c, .int .i64 dir, .int .i64 value] w (RetGot (doS x.p handle (l.map Wtr.p) dir value) w) := by
 obtain ⟨gen, cap, us, cl, BA, bc, bl⟩ := x
 have HVD : Hid (doS (Chn.p ⟨gen, cap, us, cl, BA, bc, bl⟩) handle (l.map Wtr.p) dir value = if readyS (Chn.p ⟨gen, cap, us, cl, BA, bc, bl⟩) handle (l.map Wtr.p) dir = false then ⟨⟨gen, cap, us, cl, bl⟩, l.map Wtr.p, ⟨0, 0, 10, 0⟩, []⟩
  else if dir = 1 /\ cl = false then sendS (Chn.p ⟨gen, cap, us, cl, BA, bc, bl⟩) handle (l.map Wtr.p) value
  else if dir = 2 /\ (0 < bl.length ∨ (firstS (l.map Wtr.p) 1 handle).isSome = true) then recvS (Chn.p ⟨gen, cap, us, cl, BA, bc, bl⟩) handle (l.map Wtr.p)
  else ⟨⟨gen, cap, us, cl, bl⟩, l.map Wtr.p, ⟨0, 0, 9, 0⟩, []⟩) := Zd rfl
 generalize hG : doS (Chn.p ⟨gen, cap, us, cl, BA, bc, bl⟩) handle (l.map Wtr.p) dir value = G at *
 clear hG
 have HCP := Zd (fun W (hW : ChAt W ⟨gen, cap, us, cl, BA, bc, bl⟩) => cCopy_any ⟨gen, cap, us, cl, BA, bc, bl⟩ W hW)
 have HWC := Zd (fun W (hW : WtsAt W A n l) => wCopy_any A n c l W hW)
 have HF1 := Zd (fun W (hW : WtsAt W A n l) => wFirst_any A n c l 1 handle W hW)
 have HRD := Zd (fun W (hW : WtsAt W A n l) => cReady_any ⟨gen, cap, us, cl, BA, bc, bl⟩ handle A n c l dir W hW hx.few)
 have HSN := Zd (fun W (hW : WtsAt W A n l) (hC : ChAt W ⟨gen, cap, us, cl, BA, bc, bl⟩) => cSend_any ⟨gen, cap, us, cl, BA, bc, bl⟩ handle A n c l value W hW hC)
 have HRV := Zd (fun W (hW : WtsAt W A n l) (hC : ChAt W ⟨gen, cap, us, cl, BA, bc, bl⟩) hgo => cRecv_any ⟨gen, cap, us, cl, BA, bc, bl⟩ handle A n c l W hW hC hgo)
 obtain ⟨b0, b1, b2, hb3⟩ := box3 w 124 124 42 [.int .i64 gen, .int .i64 cap, .bool us, .bool cl, .slice BA bl.length bc] [.int .i64 0, .int .i64 0, .bool false, .bool false, .slice none 0 0] [.int .i64 0, .int .i64 0, .int .i64 0, .int .i64 0]
 have HB0 := Zd b0
 have HB1 := Zd b1
 have HB2 := Zd b2
 have HB3 := Zd hb3
 have HX := Zd (hx.below hb3)
 have HW := Zd (h.below hb3)
 clear b0 b1 b2 hb3 hx h
 unfold chnV
 simp only
 unfold chnV at HCP HRD HSN HRV
 simp only at HCP HRD HSN HRV
 generalize readyS (Chn.p ⟨gen, cap, us, cl, BA, bc, bl⟩) handle (l.map Wtr.p) dir = R at *
 generalize hm : bl.length = m at *
 have HM := Zd hm
 clear hm
 cases R
 . have HV : Hid (G = ⟨⟨gen, cap, us, cl, bl⟩, l.map Wtr.p, ⟨0, 0, 10, 0⟩, []⟩) := Zd (by rw [HVD.out, if_pos rfl])
   clear HVD
   go_enter Tryz.func211, Tryz.ntmps211
   go_upto_region 1 with fail
   generalize ((w.alloc (.cells #[.int .i64 gen, .int .i64 cap, .bool us, .bool cl, .slice BA m bc] 124)).alloc (.cells #[.int .i64 0, .int .i64 0, .bool false, .bool false, .slice none 0 0] 124)).alloc (.cells #[.int .i64 0, .int .i64 0, .int .i64 0, .int .i64 0] 42) = W0 at *
   obtain ⟨y0, y1, y2, y3, y4, _⟩ := chnBox HB0.out
   go_wp2_with (first
    | (refine (HF1.out _ HW.out).mono ?_; rintro er w1 ⟨rfl, hb1⟩; have HB4 := Zd hb1; have HX4 := Zd (HB0.out.below hb1 HB0.out.lt); clear hb1 y0 y1 y2 y3 y4; obtain ⟨y0, y1, y2, y3, y4, _⟩ := chnBox HX4.out)
    | (refine (HRD.out _ (HW.out.below HB4.out)).mono ?_; rintro er w2 ⟨rfl, hb2⟩; have HB5 := Zd (btr HB4.out hb2); have HX5 := Zd (HX4.out.below hb2 HX4.out.lt); clear hb2 y0 y1 y2 y3 y4; obtain ⟨y0, y1, y2, y3, y4, _⟩ := chnBox HX5.out)
    | (refine (HCP.out _ (HX.out.below HB5.out)).mono ?_; rintro er w3 ⟨⟨g1, p1, u1, k1, A1, d1, l1⟩, rfl, hp1, hown1, hb3⟩
       simp only [Chn.p, ChP.mk.injEq] at hp1
       obtain ⟨rfl, rfl, rfl, rfl, rfl⟩ := hp1
       unfold chnV
       simp only [HM.out]
       have HO1 : Hid (w3.ownsRow w2.heap.size 3 1 (.slice A1 m d1) m (ints l1)) := Zd (by have := hown1; unfold OwnBuf at this; simp only [HM.out] at this; exact this)
       have HB6 := Zd (btr HB5.out hb3)
       clear hown1 hb3)
    | (refine (HWC.out _ (HW.out.below HB6.out)).mono ?_; rintro er w4 ⟨A4, c4, l4, rfl, hm4, hown4, hb4⟩
       have HM4 := Zd hm4
       have HOW := Zd hown4
       have HO4 := Zd (own_below HO1.out hb4)
       have HB7 := Zd (btr HB6.out hb4)
       have HY8 := Zd (HB1.out.below HB7.out HB1.out.lt)
       have HY10 := Zd (HB2.out.below HB7.out HB2.out.lt)
       have e0 := HY8.out.cell (i := 0) rfl
       have ze0 := HY8.out.frozen 0
       have e1 := HY8.out.cell (i := 1) rfl
       have ze1 := HY8.out.frozen 1
       have e2 := HY8.out.cell (i := 2) rfl
       have ze2 := HY8.out.frozen 2
       have e3 := HY8.out.cell (i := 3) rfl
       have ze3 := HY8.out.frozen 3
       have e4 := HY8.out.cell (i := 4) rfl
       have ze4 := HY8.out.frozen 4
       have f0 := HY10.out.cell (i := 0) rfl
       have zf0 := HY10.out.frozen 0
       have f1 := HY10.out.cell (i := 1) rfl
       have zf1 := HY10.out.frozen 1
       have f2 := HY10.out.cell (i := 2) rfl
       have zf2 := HY10.out.frozen 2
       have f3 := HY10.out.cell (i := 3) rfl
       have zf3 := HY10.out.frozen 3
       clear hm4 hown4 hb4))
   go_wp2_with fail
   have n5 : w.heap.size + 1 ≠ w.heap.size + 1 + 1 := by omega
   have HF := Zd (wr9_facts (.int .i64 g1) (.int .i64 p1) (.bool u1) (.bool k1) (.slice A1 m d1) (.int .i64 0) (.int .i64 0) (.int .i64 10) (.int .i64 0) HY8.out HY10.out n5)
   unfold wr9 at HF
   have HBX := Zd (HB3.out.trans (HB7.out.mono HB3.out.size))
   generalize (((((((((w4.setCell ⟨w.heap.size + 1, 0, none⟩ (.int .i64 g1)).setCell ⟨w.heap.size + 1, 1, none⟩ (.int .i64 p1)).setCell ⟨w.heap.size + 1, 2, none⟩ (.bool u1)).setCell ⟨w.heap.size + 1, 3, none⟩ (.bool k1)).setCell ⟨w.heap.size + 1, 4, none⟩ (.slice A1 m d1)).setCell ⟨w.heap.size + 1 + 1, 0, none⟩ (.int .i64 0)).setCell ⟨w.heap.size + 1 + 1, 1, none⟩ (.int .i64 0)).setCell ⟨w.heap.size + 1 + 1, 2, none⟩ (.int .i64 10)).setCell ⟨w.heap.size + 1 + 1, 3, none⟩ (.int .i64 0)) = V at *
   have hlt8 : w.heap.size + 1 < W0.heap.size := HB1.out.lt
   have hlt10 : w.heap.size + 1 + 1 < W0.heap.size := HB2.out.lt
   have hS := HB3.out.size
   have hl8 : (l.map Wtr.p).length = l.length := List.length_map _
   refine bodyPost_ret (v := .tuple #[chnV ⟨g1, p1, u1, k1, A1, d1, l1⟩, .slice A4 (l.map Wtr.p).length c4, rsV ⟨0, 0, 10, 0⟩, .slice none 0 0])
    (ret_cell4 (g := w.heap.size + 1) (g2 := w.heap.size + 1 + 1) rfl rfl (chn_load (x := ⟨g1, p1, u1, k1, A1, d1, l1⟩) HF.out.c (by simp only [Chn.cells, HM.out])) (by first | rfl | (rw [hl8]; rfl)) rfl (rsl_load (r := ⟨0, 0, 10, 0⟩) HF.out.r) rfl) rfl ?_
   refine ⟨⟨g1, p1, u1, k1, A1, d1, l1⟩, A4, c4, l4, none, 0, ?_, ?_, ?_, ?_, ?_, ?_, ?_⟩
   . rw [HV.out]; rfl
   . rw [HV.out]; rfl
   . unfold OwnBuf
     simp only [HM.out]
     exact own_lower (HF.out.own _ _ _ _ _ _ (Nat.lt_of_lt_of_le hlt8 HB5.out.size) (Nat.lt_of_lt_of_le hlt10 HB5.out.size) HO4.out) (Nat.le_trans hS HB5.out.size)
   . rw [HM4.out, HV.out]
   . rw [HV.out]
     exact (HF.out.wts HOW.out (Nat.lt_of_lt_of_le hlt8 HB6.out.size) (Nat.lt_of_lt_of_le hlt10 HB6.out.size)).lower (Nat.le_trans hS HB6.out.size)
   . rw [HV.out]; exact own_nil _ _ _ _
   . exact HBX.out.trans (HF.out.below w.heap.size (by omega) (by omega) HBX.out.size)
 . by_cases d1 : dir = 1 /\ cl = false
   . obtain ⟨d1, d2⟩ := d1
     have b1 : (dir == 1) = true := by simp [d1]
     have HV0 : Hid (G = sendS (Chn.p ⟨gen, cap, us, cl, BA, bc, bl⟩) handle (l.map Wtr.p) value) := Zd (by rw [HVD.out, if_neg (by simp), if_pos ⟨d1, d2⟩])
     clear HVD d1 HRV HCP
     subst d2
     generalize sendS (Chn.p ⟨gen, cap, us, false, BA, bc, bl⟩) handle (l.map Wtr.p) value = S0 at *
     obtain ⟨sc, sl, ⟨r0, r1, r2, r3⟩, st⟩ := S0
     unfold RetGot at HSN
     simp only at HSN
     have HN4 : Hid (sl.length = sl.length) := Zd rfl
     have HNT : Hid (st.length = st.length) := Zd rfl
     generalize hn4 : sl.length = n4 at HSN
     generalize hnt : st.length = nt at HSN
     replace HN4 := Zd hn4
     replace HNT := Zd hnt
     clear hn4 hnt
     have HV := HV0
     go_enter Tryz.func211, Tryz.ntmps211
     go_upto_region 1 with fail
     generalize ((w.alloc (.cells #[.int .i64 gen, .int .i64 cap, .bool us, .bool false, .slice BA m bc] 124)).alloc (.cells #[.int .i64 0, .int .i64 0, .bool false, .bool false, .slice none 0 0] 124)).alloc (.cells #[.int .i64 0, .int .i64 0, .int .i64 0, .int .i64 0] 42) = W0 at *
     obtain ⟨y0, y1, y2, y3, y4, _⟩ := chnBox HB0.out
     go_wp2_with (first
      | (refine (HF1.out _ HW.out).mono ?_; rintro er w1 ⟨rfl, hb1⟩; have HB4 := Zd hb1; have HX4 := Zd (HB0.out.below hb1 HB0.out.lt); clear hb1 y0 y1 y2 y3 y4; obtain ⟨y0, y1, y2, y3, y4, _⟩ := chnBox HX4.out)
      | (refine (HRD.out _ (HW.out.below HB4.out)).mono ?_; rintro er w2 ⟨rfl, hb2⟩; have HB5 := Zd (btr HB4.out hb2); have HX5 := Zd (HX4.out.below hb2 HX4.out.lt); clear hb2 y0 y1 y2 y3 y4; obtain ⟨y0, y1, y2, y3, y4, _⟩ := chnBox HX5.out)
      | (refine ((HSN.out _ (HW.out.below HB5.out) (HX.out.below HB5.out)).mono ?_); rintro er w3 ⟨⟨g1, p1, u1, k1, A1, d1, l1⟩, A4, c4, l4, TA, tc, rfl, hp1, hown1, hm4, hown4, htd, hb3⟩
         have HP1 := Zd hp1
         have HM4 := Zd hm4
         have HOW := Zd hown4
         have HTD := Zd htd
         have HO1 : Hid (w3.ownsRow w2.heap.size 3 1 (.slice A1 l1.length d1) l1.length (ints l1)) := Zd hown1
         have HB6 := Zd (btr HB5.out hb3)
         have HY8 := Zd (HB1.out.below HB6.out HB1.out.lt)
         have HY10 := Zd (HB2.out.below HB6.out HB2.out.lt)
         have e0 := HY8.out.cell (i := 0) rfl
         have ze0 := HY8.out.frozen 0
         have e1 := HY8.out.cell (i := 1) rfl
         have ze1 := HY8.out.frozen 1
         have e2 := HY8.out.cell (i := 2) rfl
         have ze2 := HY8.out.frozen 2
         have e3 := HY8.out.cell (i := 3) rfl
         have ze3 := HY8.out.frozen 3
         have e4 := HY8.out.cell (i := 4) rfl
         have ze4 := HY8.out.frozen 4
         have f0 := HY10.out.cell (i := 0) rfl
         have zf0 := HY10.out.frozen 0
         have f1 := HY10.out.cell (i := 1) rfl
         have zf1 := HY10.out.frozen 1
         have f2 := HY10.out.cell (i := 2) rfl
         have zf2 := HY10.out.frozen 2
         have f3 := HY10.out.cell (i := 3) rfl
         have zf3 := HY10.out.frozen 3
         clear hp1 hown1 hm4 hown4 htd hb3))
     go_wp2_with fail
     have n5 : w.heap.size + 1 ≠ w.heap.size + 1 + 1 := by omega
     have HF := Zd (wr9_facts (.int .i64 g1) (.int .i64 p1) (.bool u1) (.bool k1) (.slice A1 l1.length d1) (.int .i64 r0) (.int .i64 r1) (.int .i64 r2) (.int .i64 r3) HY8.out HY10.out n5)
     unfold wr9 at HF
     have HBX := Zd (HB3.out.trans (HB6.out.mono HB3.out.size))
     generalize (((((((((w3.setCell ⟨w.heap.size + 1, 0, none⟩ (.int .i64 g1)).setCell ⟨w.heap.size + 1, 1, none⟩ (.int .i64 p1)).setCell ⟨w.heap.size + 1, 2, none⟩ (.bool u1)).setCell ⟨w.heap.size + 1, 3, none⟩ (.bool k1)).setCell ⟨w.heap.size + 1, 4, none⟩ (.slice A1 l1.length d1)).setCell ⟨w.heap.size + 1 + 1, 0, none⟩ (.int .i64 r0)).setCell ⟨w.heap.size + 1 + 1, 1, none⟩ (.int .i64 r1)).setCell ⟨w.heap.size + 1 + 1, 2, none⟩ (.int .i64 r2)).setCell ⟨w.heap.size + 1 + 1, 3, none⟩ (.int .i64 r3)) = V at *
     have hlt8 : w.heap.size + 1 < W0.heap.size := HB1.out.lt
     have hlt10 : w.heap.size + 1 + 1 < W0.heap.size := HB2.out.lt
     have hS := HB3.out.size
     refine bodyPost_ret (v := .tuple #[chnV ⟨g1, p1, u1, k1, A1, d1, l1⟩, .slice A4 n4 c4, rsV ⟨r0, r1, r2, r3⟩, .slice TA nt tc])
      (ret_cell4 (g := w.heap.size + 1) (g2 := w.heap.size + 1 + 1) rfl rfl (chn_load (x := ⟨g1, p1, u1, k1, A1, d1, l1⟩) HF.out.c rfl) rfl rfl (rsl_load (r := ⟨r0, r1, r2, r3⟩) HF.out.r) rfl) rfl ?_
     refine ⟨⟨g1, p1, u1, k1, A1, d1, l1⟩, A4, c4, l4, TA, tc, ?_, ?_, ?_, ?_, ?_, ?_, ?_⟩
     . rw [HV.out]; simp only [HN4.out, HNT.out]
     . rw [HV.out]; exact HP1.out
     . unfold OwnBuf
       exact own_lower (HF.out.own _ _ _ _ _ _ (Nat.lt_of_lt_of_le hlt8 HB5.out.size) (Nat.lt_of_lt_of_le hlt10 HB5.out.size) HO1.out) (Nat.le_trans hS HB5.out.size)
     . rw [HV.out]; exact HM4.out
     . rw [HV.out]
       simp only [HN4.out]
       exact (HF.out.wts HOW.out (Nat.lt_of_lt_of_le hlt8 HB5.out.size) (Nat.lt_of_lt_of_le hlt10 HB5.out.size)).lower (Nat.le_trans hS HB5.out.size)
     . rw [HV.out]
       simp only [HNT.out]
       exact own_lower (HF.out.own _ _ _ _ _ _ (Nat.lt_of_lt_of_le hlt8 HB5.out.size) (Nat.lt_of_lt_of_le hlt10 HB5.out.size) HTD.out) (Nat.le_trans hS HB5.out.size)
     . exact HBX.out.trans (HF.out.below w.heap.size (by omega) (by omega) HBX.out.size)
   . by_cases d2 : dir = 2 /\ (0 < m ∨ (firstS (l.map Wtr.p) 1 handle).isSome = true)
     . obtain ⟨d2, d3⟩ := d2
       have b1 : (dir == 1) = false := by simp [d2]
       have b2 : (dir == 2) = true := by simp [d2]
       have HV0 : Hid (G = recvS (Chn.p ⟨gen, cap, us, cl, BA, bc, bl⟩) handle (l.map Wtr.p)) := Zd (by rw [HVD.out, if_neg (by simp), if_neg d1, if_pos ⟨d2, d3⟩])
       have HGO := Zd d3
       clear HVD d1 d2 HSN HCP
       generalize recvS (Chn.p ⟨gen, cap, us, cl, BA, bc, bl⟩) handle (l.map Wtr.p) = S0 at *
       obtain ⟨sc, sl, ⟨r0, r1, r2, r3⟩, st⟩ := S0
       unfold RetGot at HRV
       simp only at HRV
       have HN4 : Hid (sl.length = sl.length) := Zd rfl
       have HNT : Hid (st.length = st.length) := Zd rfl
       generalize hn4 : sl.length = n4 at HRV
       generalize hnt : st.length = nt at HRV
       replace HN4 := Zd hn4
       replace HNT := Zd hnt
       clear hn4 hnt
       have HV := HV0
       generalize firstS (l.map Wtr.p) 1 handle = o1 at *
       by_cases hm0 : 0 < m
       . have qm : (0 : Int) < (m : Int) := by omega
         clear d3
         go_enter Tryz.func211, Tryz.ntmps211
         go_upto_region 1 with fail
         generalize ((w.alloc (.cells #[.int .i64 gen, .int .i64 cap, .bool us, .bool cl, .slice BA m bc] 124)).alloc (.cells #[.int .i64 0, .int .i64 0, .bool false, .bool false, .slice none 0 0] 124)).alloc (.cells #[.int .i64 0, .int .i64 0, .int .i64 0, .int .i64 0] 42) = W0 at *
         obtain ⟨y0, y1, y2, y3, y4, _⟩ := chnBox HB0.out
         go_wp2_with (first
          | (refine (HF1.out _ HW.out).mono ?_; rintro er w1 ⟨rfl, hb1⟩; have HB4 := Zd hb1; have HX4 := Zd (HB0.out.below hb1 HB0.out.lt); clear hb1 y0 y1 y2 y3 y4; obtain ⟨y0, y1, y2, y3, y4, _⟩ := chnBox HX4.out)
          | (refine (HRD.out _ (HW.out.below HB4.out)).mono ?_; rintro er w2 ⟨rfl, hb2⟩; have HB5 := Zd (btr HB4.out hb2); have HX5 := Zd (HX4.out.below hb2 HX4.out.lt); clear hb2 y0 y1 y2 y3 y4; obtain ⟨y0, y1, y2, y3, y4, _⟩ := chnBox HX5.out)
          | (refine ((HRV.out _ (HW.out.below HB5.out) (HX.out.below HB5.out) HGO.out).mono ?_); rintro er w3 ⟨⟨g1, p1, u1, k1, A1, d1, l1⟩, A4, c4, l4, TA, tc, rfl, hp1, hown1, hm4, hown4, htd, hb3⟩
             have HP1 := Zd hp1
             have HM4 := Zd hm4
             have HOW := Zd hown4
             have HTD := Zd htd
             have HO1 : Hid (w3.ownsRow w2.heap.size 3 1 (.slice A1 l1.length d1) l1.length (ints l1)) := Zd hown1
             have HB6 := Zd (btr HB5.out hb3)
             have HY8 := Zd (HB1.out.below HB6.out HB1.out.lt)
             have HY10 := Zd (HB2.out.below HB6.out HB2.out.lt)
             have e0 := HY8.out.cell (i := 0) rfl
             have ze0 := HY8.out.frozen 0
             have e1 := HY8.out.cell (i := 1) rfl
             have ze1 := HY8.out.frozen 1
             have e2 := HY8.out.cell (i := 2) rfl
             have ze2 := HY8.out.frozen 2
             have e3 := HY8.out.cell (i := 3) rfl
             have ze3 := HY8.out.frozen 3
             have e4 := HY8.out.cell (i := 4) rfl
             have ze4 := HY8.out.frozen 4
             have f0 := HY10.out.cell (i := 0) rfl
             have zf0 := HY10.out.frozen 0
             have f1 := HY10.out.cell (i := 1) rfl
             have zf1 := HY10.out.frozen 1
             have f2 := HY10.out.cell (i := 2) rfl
             have zf2 := HY10.out.frozen 2
             have f3 := HY10.out.cell (i := 3) rfl
             have zf3 := HY10.out.frozen 3
             clear hp1 hown1 hm4 hown4 htd hb3))
         go_wp2_with fail
         have n5 : w.heap.size + 1 ≠ w.heap.size + 1 + 1 := by omega
         have HF := Zd (wr9_facts (.int .i64 g1) (.int .i64 p1) (.bool u1) (.bool k1) (.slice A1 l1.length d1) (.int .i64 r0) (.int .i64 r1) (.int .i64 r2) (.int .i64 r3) HY8.out HY10.out n5)
         unfold wr9 at HF
         have HBX := Zd (HB3.out.trans (HB6.out.mono HB3.out.size))
         generalize (((((((((w3.setCell ⟨w.heap.size + 1, 0, none⟩ (.int .i64 g1)).setCell ⟨w.heap.size + 1, 1, none⟩ (.int .i64 p1)).setCell ⟨w.heap.size + 1, 2, none⟩ (.bool u1)).setCell ⟨w.heap.size + 1, 3, none⟩ (.bool k1)).setCell ⟨w.heap.size + 1, 4, none⟩ (.slice A1 l1.length d1)).setCell ⟨w.heap.size + 1 + 1, 0, none⟩ (.int .i64 r0)).setCell ⟨w.heap.size + 1 + 1, 1, none⟩ (.int .i64 r1)).setCell ⟨w.heap.size + 1 + 1, 2, none⟩ (.int .i64 r2)).setCell ⟨w.heap.size + 1 + 1, 3, none⟩ (.int .i64 r3)) = V at *
         have hlt8 : w.heap.size + 1 < W0.heap.size := HB1.out.lt
         have hlt10 : w.heap.size + 1 + 1 < W0.heap.size := HB2.out.lt
         have hS := HB3.out.size
         refine bodyPost_ret (v := .tuple #[chnV ⟨g1, p1, u1, k1, A1, d1, l1⟩, .slice A4 n4 c4, rsV ⟨r0, r1, r2, r3⟩, .slice TA nt tc])
          (ret_cell4 (g := w.heap.size + 1) (g2 := w.heap.size + 1 + 1) rfl rfl (chn_load (x := ⟨g1, p1, u1, k1, A1, d1, l1⟩) HF.out.c rfl) rfl rfl (rsl_load (r := ⟨r0, r1, r2, r3⟩) HF.out.r) rfl) rfl ?_
         refine ⟨⟨g1, p1, u1, k1, A1, d1, l1⟩, A4, c4, l4, TA, tc, ?_, ?_, ?_, ?_, ?_, ?_, ?_⟩
         . rw [HV.out]; simp only [HN4.out, HNT.out]
         . rw [HV.out]; exact HP1.out
         . unfold OwnBuf
           exact own_lower (HF.out.own _ _ _ _ _ _ (Nat.lt_of_lt_of_le hlt8 HB5.out.size) (Nat.lt_of_lt_of_le hlt10 HB5.out.size) HO1.out) (Nat.le_trans hS HB5.out.size)
         . rw [HV.out]; exact HM4.out
         . rw [HV.out]
           simp only [HN4.out]
           exact (HF.out.wts HOW.out (Nat.lt_of_lt_of_le hlt8 HB5.out.size) (Nat.lt_of_lt_of_le hlt10 HB5.out.size)).lower (Nat.le_trans hS HB5.out.size)
         . rw [HV.out]
           simp only [HNT.out]
           exact own_lower (HF.out.own _ _ _ _ _ _ (Nat.lt_of_lt_of_le hlt8 HB5.out.size) (Nat.lt_of_lt_of_le hlt10 HB5.out.size) HTD.out) (Nat.le_trans hS HB5.out.size)
         . exact HBX.out.trans (HF.out.below w.heap.size (by omega) (by omega) HBX.out.size)
       . have qm : ¬ (0 : Int) < (m : Int) := by omega
         have ho : o1.isSome = true := by rcases d3 with h | h; exact absurd h hm0; exact h
         clear d3
         go_enter Tryz.func211, Tryz.ntmps211
         go_upto_region 1 with fail
         generalize ((w.alloc (.cells #[.int .i64 gen, .int .i64 cap, .bool us, .bool cl, .slice BA m bc] 124)).alloc (.cells #[.int .i64 0, .int .i64 0, .bool false, .bool false, .slice none 0 0] 124)).alloc (.cells #[.int .i64 0, .int .i64 0, .int .i64 0, .int .i64 0] 42) = W0 at *
         obtain ⟨y0, y1, y2, y3, y4, _⟩ := chnBox HB0.out
         go_wp2_with (first
          | (refine (HF1.out _ HW.out).mono ?_; rintro er w1 ⟨rfl, hb1⟩; have HB4 := Zd hb1; have HX4 := Zd (HB0.out.below hb1 HB0.out.lt); clear hb1 y0 y1 y2 y3 y4; obtain ⟨y0, y1, y2, y3, y4, _⟩ := chnBox HX4.out)
          | (refine (HRD.out _ (HW.out.below HB4.out)).mono ?_; rintro er w2 ⟨rfl, hb2⟩; have HB5 := Zd (btr HB4.out hb2); have HX5 := Zd (HX4.out.below hb2 HX4.out.lt); clear hb2 y0 y1 y2 y3 y4; obtain ⟨y0, y1, y2, y3, y4, _⟩ := chnBox HX5.out)
          | (refine ((HRV.out _ (HW.out.below HB5.out) (HX.out.below HB5.out) HGO.out).mono ?_); rintro er w3 ⟨⟨g1, p1, u1, k1, A1, d1, l1⟩, A4, c4, l4, TA, tc, rfl, hp1, hown1, hm4, hown4, htd, hb3⟩
             have HP1 := Zd hp1
             have HM4 := Zd hm4
             have HOW := Zd hown4
             have HTD := Zd htd
             have HO1 : Hid (w3.ownsRow w2.heap.size 3 1 (.slice A1 l1.length d1) l1.length (ints l1)) := Zd hown1
             have HB6 := Zd (btr HB5.out hb3)
             have HY8 := Zd (HB1.out.below HB6.out HB1.out.lt)
             have HY10 := Zd (HB2.out.below HB6.out HB2.out.lt)
             have e0 := HY8.out.cell (i := 0) rfl
             have ze0 := HY8.out.frozen 0
             have e1 := HY8.out.cell (i := 1) rfl
             have ze1 := HY8.out.frozen 1
             have e2 := HY8.out.cell (i := 2) rfl
             have ze2 := HY8.out.frozen 2
             have e3 := HY8.out.cell (i := 3) rfl
             have ze3 := HY8.out.frozen 3
             have e4 := HY8.out.cell (i := 4) rfl
             have ze4 := HY8.out.frozen 4
             have f0 := HY10.out.cell (i := 0) rfl
             have zf0 := HY10.out.frozen 0
             have f1 := HY10.out.cell (i := 1) rfl
             have zf1 := HY10.out.frozen 1
             have f2 := HY10.out.cell (i := 2) rfl
             have zf2 := HY10.out.frozen 2
             have f3 := HY10.out.cell (i := 3) rfl
             have zf3 := HY10.out.frozen 3
             clear hp1 hown1 hm4 hown4 htd hb3))
         go_wp2_with fail
         have n5 : w.heap.size + 1 ≠ w.heap.size + 1 + 1 := by omega
         have HF := Zd (wr9_facts (.int .i64 g1) (.int .i64 p1) (.bool u1) (.bool k1) (.slice A1 l1.length d1) (.int .i64 r0) (.int .i64 r1) (.int .i64 r2) (.int .i64 r3) HY8.out HY10.out n5)
         unfold wr9 at HF
         have HBX := Zd (HB3.out.trans (HB6.out.mono HB3.out.size))
         generalize (((((((((w3.setCell ⟨w.heap.size + 1, 0, none⟩ (.int .i64 g1)).setCell ⟨w.heap.size + 1, 1, none⟩ (.int .i64 p1)).setCell ⟨w.heap.size + 1, 2, none⟩ (.bool u1)).setCell ⟨w.heap.size + 1, 3, none⟩ (.bool k1)).setCell ⟨w.heap.size + 1, 4, none⟩ (.slice A1 l1.length d1)).setCell ⟨w.heap.size + 1 + 1, 0, none⟩ (.int .i64 r0)).setCell ⟨w.heap.size + 1 + 1, 1, none⟩ (.int .i64 r1)).setCell ⟨w.heap.size + 1 + 1, 2, none⟩ (.int .i64 r2)).setCell ⟨w.heap.size + 1 + 1, 3, none⟩ (.int .i64 r3)) = V at *
         have hlt8 : w.heap.size + 1 < W0.heap.size := HB1.out.lt
         have hlt10 : w.heap.size + 1 + 1 < W0.heap.size := HB2.out.lt
         have hS := HB3.out.size
         refine bodyPost_ret (v := .tuple #[chnV ⟨g1, p1, u1, k1, A1, d1, l1⟩, .slice A4 n4 c4, rsV ⟨r0, r1, r2, r3⟩, .slice TA nt tc])
          (ret_cell4 (g := w.heap.size + 1) (g2 := w.heap.size + 1 + 1) rfl rfl (chn_load (x := ⟨g1, p1, u1, k1, A1, d1, l1⟩) HF.out.c rfl) rfl rfl (rsl_load (r := ⟨r0, r1, r2, r3⟩) HF.out.r) rfl) rfl ?_
         refine ⟨⟨g1, p1, u1, k1, A1, d1, l1⟩, A4, c4, l4, TA, tc, ?_, ?_, ?_, ?_, ?_, ?_, ?_⟩
         . rw [HV.out]; simp only [HN4.out, HNT.out]
         . rw [HV.out]; exact HP1.out
         . unfold OwnBuf
           exact own_lower (HF.out.own _ _ _ _ _ _ (Nat.lt_of_lt_of_le hlt8 HB5.out.size) (Nat.lt_of_lt_of_le hlt10 HB5.out.size) HO1.out) (Nat.le_trans hS HB5.out.size)
         . rw [HV.out]; exact HM4.out
         . rw [HV.out]
           simp only [HN4.out]
           exact (HF.out.wts HOW.out (Nat.lt_of_lt_of_le hlt8 HB5.out.size) (Nat.lt_of_lt_of_le hlt10 HB5.out.size)).lower (Nat.le_trans hS HB5.out.size)
         . rw [HV.out]
           simp only [HNT.out]
           exact own_lower (HF.out.own _ _ _ _ _ _ (Nat.lt_of_lt_of_le hlt8 HB5.out.size) (Nat.lt_of_lt_of_le hlt10 HB5.out.size) HTD.out) (Nat.le_trans hS HB5.out.size)
         . exact HBX.out.trans (HF.out.below w.heap.size (by omega) (by omega) HBX.out.size)
     . have HV : Hid (G = ⟨⟨gen, cap, us, cl, bl⟩, l.map Wtr.p, ⟨0, 0, 9, 0⟩, []⟩) := Zd (by rw [HVD.out, if_neg (by simp), if_neg d1, if_neg d2])
       clear HVD HSN HRV
       by_cases e1 : dir = 1
       . have hcl : cl = true := by cases cl; exact absurd ⟨e1, rfl⟩ d1; rfl
         subst hcl
         have b1 : (dir == 1) = true := by simp [e1]
         have b2 : ¬ dir = 2 := by omega
         clear d1 d2 e1
         go_enter Tryz.func211, Tryz.ntmps211
         go_upto_region 1 with fail
         generalize ((w.alloc (.cells #[.int .i64 gen, .int .i64 cap, .bool us, .bool true, .slice BA m bc] 124)).alloc (.cells #[.int .i64 0, .int .i64 0, .bool false, .bool false, .slice none 0 0] 124)).alloc (.cells #[.int .i64 0, .int .i64 0, .int .i64 0, .int .i64 0] 42) = W0 at *
         obtain ⟨y0, y1, y2, y3, y4, _⟩ := chnBox HB0.out
         go_wp2_with (first
          | (refine (HF1.out _ HW.out).mono ?_; rintro er w1 ⟨rfl, hb1⟩; have HB4 := Zd hb1; have HX4 := Zd (HB0.out.below hb1 HB0.out.lt); clear hb1 y0 y1 y2 y3 y4; obtain ⟨y0, y1, y2, y3, y4, _⟩ := chnBox HX4.out)
          | (refine (HRD.out _ (HW.out.below HB4.out)).mono ?_; rintro er w2 ⟨rfl, hb2⟩; have HB5 := Zd (btr HB4.out hb2); have HX5 := Zd (HX4.out.below hb2 HX4.out.lt); clear hb2 y0 y1 y2 y3 y4; obtain ⟨y0, y1, y2, y3, y4, _⟩ := chnBox HX5.out)
          | (refine (HCP.out _ (HX.out.below HB5.out)).mono ?_; rintro er w3 ⟨⟨g1, p1, u1, k1, A1, d1, l1⟩, rfl, hp1, hown1, hb3⟩
             simp only [Chn.p, ChP.mk.injEq] at hp1
             obtain ⟨rfl, rfl, rfl, rfl, rfl⟩ := hp1
             unfold chnV
             simp only [HM.out]
             have HO1 : Hid (w3.ownsRow w2.heap.size 3 1 (.slice A1 m d1) m (ints l1)) := Zd (by have := hown1; unfold OwnBuf at this; simp only [HM.out] at this; exact this)
             have HB6 := Zd (btr HB5.out hb3)
             clear hown1 hb3)
          | (refine (HWC.out _ (HW.out.below HB6.out)).mono ?_; rintro er w4 ⟨A4, c4, l4, rfl, hm4, hown4, hb4⟩
             have HM4 := Zd hm4
             have HOW := Zd hown4
             have HO4 := Zd (own_below HO1.out hb4)
             have HB7 := Zd (btr HB6.out hb4)
             have HY8 := Zd (HB1.out.below HB7.out HB1.out.lt)
             have HY10 := Zd (HB2.out.below HB7.out HB2.out.lt)
             have e0 := HY8.out.cell (i := 0) rfl
             have ze0 := HY8.out.frozen 0
             have e1 := HY8.out.cell (i := 1) rfl
             have ze1 := HY8.out.frozen 1
             have e2 := HY8.out.cell (i := 2) rfl
             have ze2 := HY8.out.frozen 2
             have e3 := HY8.out.cell (i := 3) rfl
             have ze3 := HY8.out.frozen 3
             have e4 := HY8.out.cell (i := 4) rfl
             have ze4 := HY8.out.frozen 4
             have f0 := HY10.out.cell (i := 0) rfl
             have zf0 := HY10.out.frozen 0
             have f1 := HY10.out.cell (i := 1) rfl
             have zf1 := HY10.out.frozen 1
             have f2 := HY10.out.cell (i := 2) rfl
             have zf2 := HY10.out.frozen 2
             have f3 := HY10.out.cell (i := 3) rfl
             have zf3 := HY10.out.frozen 3
             clear hm4 hown4 hb4))
         go_wp2_with fail
         have n5 : w.heap.size + 1 ≠ w.heap.size + 1 + 1 := by omega
         have HF := Zd (wr9_facts (.int .i64 g1) (.int .i64 p1) (.bool u1) (.bool true) (.slice A1 m d1) (.int .i64 0) (.int .i64 0) (.int .i64 9) (.int .i64 0) HY8.out HY10.out n5)
         unfold wr9 at HF
         have HBX := Zd (HB3.out.trans (HB7.out.mono HB3.out.size))
         generalize (((((((((w4.setCell ⟨w.heap.size + 1, 0, none⟩ (.int .i64 g1)).setCell ⟨w.heap.size + 1, 1, none⟩ (.int .i64 p1)).setCell ⟨w.heap.size + 1, 2, none⟩ (.bool u1)).setCell ⟨w.heap.size + 1, 3, none⟩ (.bool true)).setCell ⟨w.heap.size + 1, 4, none⟩ (.slice A1 m d1)).setCell ⟨w.heap.size + 1 + 1, 0, none⟩ (.int .i64 0)).setCell ⟨w.heap.size + 1 + 1, 1, none⟩ (.int .i64 0)).setCell ⟨w.heap.size + 1 + 1, 2, none⟩ (.int .i64 9)).setCell ⟨w.heap.size + 1 + 1, 3, none⟩ (.int .i64 0)) = V at *
         have hlt8 : w.heap.size + 1 < W0.heap.size := HB1.out.lt
         have hlt10 : w.heap.size + 1 + 1 < W0.heap.size := HB2.out.lt
         have hS := HB3.out.size
         have hl8 : (l.map Wtr.p).length = l.length := List.length_map _
         refine bodyPost_ret (v := .tuple #[chnV ⟨g1, p1, u1, true, A1, d1, l1⟩, .slice A4 (l.map Wtr.p).length c4, rsV ⟨0, 0, 9, 0⟩, .slice none 0 0])
          (ret_cell4 (g := w.heap.size + 1) (g2 := w.heap.size + 1 + 1) rfl rfl (chn_load (x := ⟨g1, p1, u1, true, A1, d1, l1⟩) HF.out.c (by simp only [Chn.cells, HM.out])) (by first | rfl | (rw [hl8]; rfl)) rfl (rsl_load (r := ⟨0, 0, 9, 0⟩) HF.out.r) rfl) rfl ?_
         refine ⟨⟨g1, p1, u1, true, A1, d1, l1⟩, A4, c4, l4, none, 0, ?_, ?_, ?_, ?_, ?_, ?_, ?_⟩
         . rw [HV.out]; rfl
         . rw [HV.out]; rfl
         . unfold OwnBuf
           simp only [HM.out]
           exact own_lower (HF.out.own _ _ _ _ _ _ (Nat.lt_of_lt_of_le hlt8 HB5.out.size) (Nat.lt_of_lt_of_le hlt10 HB5.out.size) HO4.out) (Nat.le_trans hS HB5.out.size)
         . rw [HM4.out, HV.out]
         . rw [HV.out]
           exact (HF.out.wts HOW.out (Nat.lt_of_lt_of_le hlt8 HB6.out.size) (Nat.lt_of_lt_of_le hlt10 HB6.out.size)).lower (Nat.le_trans hS HB6.out.size)
         . rw [HV.out]; exact own_nil _ _ _ _
         . exact HBX.out.trans (HF.out.below w.heap.size (by omega) (by omega) HBX.out.size)
       . by_cases e2 : dir = 2
         . have hm0 : m = 0 := by have : ¬ 0 < m := fun h => d2 ⟨e2, .inl h⟩; omega
           have ho : (firstS (l.map Wtr.p) 1 handle).isSome = false := by
            cases e : (firstS (l.map Wtr.p) 1 handle).isSome
            . rfl
            . exact absurd ⟨e2, .inr e⟩ d2
           clear d1 d2 e1
           subst e2
           subst hm0
           generalize firstS (l.map Wtr.p) 1 handle = o1 at *
           go_enter Tryz.func211, Tryz.ntmps211
           go_upto_region 1 with fail
           generalize ((w.alloc (.cells #[.int .i64 gen, .int .i64 cap, .bool us, .bool cl, .slice BA 0 bc] 124)).alloc (.cells #[.int .i64 0, .int .i64 0, .bool false, .bool false, .slice none 0 0] 124)).alloc (.cells #[.int .i64 0, .int .i64 0, .int .i64 0, .int .i64 0] 42) = W0 at *
           obtain ⟨y0, y1, y2, y3, y4, _⟩ := chnBox HB0.out
           go_wp2_with (first
            | (refine (HF1.out _ HW.out).mono ?_; rintro er w1 ⟨rfl, hb1⟩; have HB4 := Zd hb1; have HX4 := Zd (HB0.out.below hb1 HB0.out.lt); clear hb1 y0 y1 y2 y3 y4; obtain ⟨y0, y1, y2, y3, y4, _⟩ := chnBox HX4.out)
            | (refine (HRD.out _ (HW.out.below HB4.out)).mono ?_; rintro er w2 ⟨rfl, hb2⟩; have HB5 := Zd (btr HB4.out hb2); have HX5 := Zd (HX4.out.below hb2 HX4.out.lt); clear hb2 y0 y1 y2 y3 y4; obtain ⟨y0, y1, y2, y3, y4, _⟩ := chnBox HX5.out)
            | (refine (HCP.out _ (HX.out.below HB5.out)).mono ?_; rintro er w3 ⟨⟨g1, p1, u1, k1, A1, d1, l1⟩, rfl, hp1, hown1, hb3⟩
               simp only [Chn.p, ChP.mk.injEq] at hp1
               obtain ⟨rfl, rfl, rfl, rfl, rfl⟩ := hp1
               unfold chnV
               simp only [HM.out]
               have HO1 : Hid (w3.ownsRow w2.heap.size 3 1 (.slice A1 0 d1) 0 (ints l1)) := Zd (by have := hown1; unfold OwnBuf at this; simp only [HM.out] at this; exact this)
               have HB6 := Zd (btr HB5.out hb3)
               clear hown1 hb3)
            | (refine (HWC.out _ (HW.out.below HB6.out)).mono ?_; rintro er w4 ⟨A4, c4, l4, rfl, hm4, hown4, hb4⟩
               have HM4 := Zd hm4
               have HOW := Zd hown4
               have HO4 := Zd (own_below HO1.out hb4)
               have HB7 := Zd (btr HB6.out hb4)
               have HY8 := Zd (HB1.out.below HB7.out HB1.out.lt)
               have HY10 := Zd (HB2.out.below HB7.out HB2.out.lt)
               have e0 := HY8.out.cell (i := 0) rfl
               have ze0 := HY8.out.frozen 0
               have e1 := HY8.out.cell (i := 1) rfl
               have ze1 := HY8.out.frozen 1
               have e2 := HY8.out.cell (i := 2) rfl
               have ze2 := HY8.out.frozen 2
               have e3 := HY8.out.cell (i := 3) rfl
               have ze3 := HY8.out.frozen 3
               have e4 := HY8.out.cell (i := 4) rfl
               have ze4 := HY8.out.frozen 4
               have f0 := HY10.out.cell (i := 0) rfl
               have zf0 := HY10.out.frozen 0
               have f1 := HY10.out.cell (i := 1) rfl
               have zf1 := HY10.out.frozen 1
               have f2 := HY10.out.cell (i := 2) rfl
               have zf2 := HY10.out.frozen 2
               have f3 := HY10.out.cell (i := 3) rfl
               have zf3 := HY10.out.frozen 3
               clear hm4 hown4 hb4))
           go_wp2_with fail
           have n5 : w.heap.size + 1 ≠ w.heap.size + 1 + 1 := by omega
           have HF := Zd (wr9_facts (.int .i64 g1) (.int .i64 p1) (.bool u1) (.bool k1) (.slice A1 0 d1) (.int .i64 0) (.int .i64 0) (.int .i64 9) (.int .i64 0) HY8.out HY10.out n5)
           unfold wr9 at HF
           have HBX := Zd (HB3.out.trans (HB7.out.mono HB3.out.size))
           generalize (((((((((w4.setCell ⟨w.heap.size + 1, 0, none⟩ (.int .i64 g1)).setCell ⟨w.heap.size + 1, 1, none⟩ (.int .i64 p1)).setCell ⟨w.heap.size + 1, 2, none⟩ (.bool u1)).setCell ⟨w.heap.size + 1, 3, none⟩ (.bool k1)).setCell ⟨w.heap.size + 1, 4, none⟩ (.slice A1 0 d1)).setCell ⟨w.heap.size + 1 + 1, 0, none⟩ (.int .i64 0)).setCell ⟨w.heap.size + 1 + 1, 1, none⟩ (.int .i64 0)).setCell ⟨w.heap.size + 1 + 1, 2, none⟩ (.int .i64 9)).setCell ⟨w.heap.size + 1 + 1, 3, none⟩ (.int .i64 0)) = V at *
           have hlt8 : w.heap.size + 1 < W0.heap.size := HB1.out.lt
           have hlt10 : w.heap.size + 1 + 1 < W0.heap.size := HB2.out.lt
           have hS := HB3.out.size
           have hl8 : (l.map Wtr.p).length = l.length := List.length_map _
           refine bodyPost_ret (v := .tuple #[chnV ⟨g1, p1, u1, k1, A1, d1, l1⟩, .slice A4 (l.map Wtr.p).length c4, rsV ⟨0, 0, 9, 0⟩, .slice none 0 0])
            (ret_cell4 (g := w.heap.size + 1) (g2 := w.heap.size + 1 + 1) rfl rfl (chn_load (x := ⟨g1, p1, u1, k1, A1, d1, l1⟩) HF.out.c (by simp only [Chn.cells, HM.out])) (by first | rfl | (rw [hl8]; rfl)) rfl (rsl_load (r := ⟨0, 0, 9, 0⟩) HF.out.r) rfl) rfl ?_
           refine ⟨⟨g1, p1, u1, k1, A1, d1, l1⟩, A4, c4, l4, none, 0, ?_, ?_, ?_, ?_, ?_, ?_, ?_⟩
           . rw [HV.out]; rfl
           . rw [HV.out]; rfl
           . unfold OwnBuf
             simp only [HM.out]
             exact own_lower (HF.out.own _ _ _ _ _ _ (Nat.lt_of_lt_of_le hlt8 HB5.out.size) (Nat.lt_of_lt_of_le hlt10 HB5.out.size) HO4.out) (Nat.le_trans hS HB5.out.size)
           . rw [HM4.out, HV.out]
           . rw [HV.out]
             exact (HF.out.wts HOW.out (Nat.lt_of_lt_of_le hlt8 HB6.out.size) (Nat.lt_of_lt_of_le hlt10 HB6.out.size)).lower (Nat.le_trans hS HB6.out.size)
           . rw [HV.out]; exact own_nil _ _ _ _
           . exact HBX.out.trans (HF.out.below w.heap.size (by omega) (by omega) HBX.out.size)
         . clear d1 d2
           go_enter Tryz.func211, Tryz.ntmps211
           go_upto_region 1 with fail
           generalize ((w.alloc (.cells #[.int .i64 gen, .int .i64 cap, .bool us, .bool cl, .slice BA m bc] 124)).alloc (.cells #[.int .i64 0, .int .i64 0, .bool false, .bool false, .slice none 0 0] 124)).alloc (.cells #[.int .i64 0, .int .i64 0, .int .i64 0, .int .i64 0] 42) = W0 at *
           obtain ⟨y0, y1, y2, y3, y4, _⟩ := chnBox HB0.out
           go_wp2_with (first
            | (refine (HF1.out _ HW.out).mono ?_; rintro er w1 ⟨rfl, hb1⟩; have HB4 := Zd hb1; have HX4 := Zd (HB0.out.below hb1 HB0.out.lt); clear hb1 y0 y1 y2 y3 y4; obtain ⟨y0, y1, y2, y3, y4, _⟩ := chnBox HX4.out)
            | (refine (HRD.out _ (HW.out.below HB4.out)).mono ?_; rintro er w2 ⟨rfl, hb2⟩; have HB5 := Zd (btr HB4.out hb2); have HX5 := Zd (HX4.out.below hb2 HX4.out.lt); clear hb2 y0 y1 y2 y3 y4; obtain ⟨y0, y1, y2, y3, y4, _⟩ := chnBox HX5.out)
            | (refine (HCP.out _ (HX.out.below HB5.out)).mono ?_; rintro er w3 ⟨⟨g1, p1, u1, k1, A1, d1, l1⟩, rfl, hp1, hown1, hb3⟩
               simp only [Chn.p, ChP.mk.injEq] at hp1
               obtain ⟨rfl, rfl, rfl, rfl, rfl⟩ := hp1
               unfold chnV
               simp only [HM.out]
               have HO1 : Hid (w3.ownsRow w2.heap.size 3 1 (.slice A1 m d1) m (ints l1)) := Zd (by have := hown1; unfold OwnBuf at this; simp only [HM.out] at this; exact this)
               have HB6 := Zd (btr HB5.out hb3)
               clear hown1 hb3)
            | (refine (HWC.out _ (HW.out.below HB6.out)).mono ?_; rintro er w4 ⟨A4, c4, l4, rfl, hm4, hown4, hb4⟩
               have HM4 := Zd hm4
               have HOW := Zd hown4
               have HO4 := Zd (own_below HO1.out hb4)
               have HB7 := Zd (btr HB6.out hb4)
               have HY8 := Zd (HB1.out.below HB7.out HB1.out.lt)
               have HY10 := Zd (HB2.out.below HB7.out HB2.out.lt)
               have e0 := HY8.out.cell (i := 0) rfl
               have ze0 := HY8.out.frozen 0
               have e1 := HY8.out.cell (i := 1) rfl
               have ze1 := HY8.out.frozen 1
               have e2 := HY8.out.cell (i := 2) rfl
               have ze2 := HY8.out.frozen 2
               have e3 := HY8.out.cell (i := 3) rfl
               have ze3 := HY8.out.frozen 3
               have e4 := HY8.out.cell (i := 4) rfl
               have ze4 := HY8.out.frozen 4
               have f0 := HY10.out.cell (i := 0) rfl
               have zf0 := HY10.out.frozen 0
               have f1 := HY10.out.cell (i := 1) rfl
               have zf1 := HY10.out.frozen 1
               have f2 := HY10.out.cell (i := 2) rfl
               have zf2 := HY10.out.frozen 2
               have f3 := HY10.out.cell (i := 3) rfl
               have zf3 := HY10.out.frozen 3
               clear hm4 hown4 hb4))
           go_wp2_with fail
           have n5 : w.heap.size + 1 ≠ w.heap.size + 1 + 1 := by omega
           have HF := Zd (wr9_facts (.int .i64 g1) (.int .i64 p1) (.bool u1) (.bool k1) (.slice A1 m d1) (.int .i64 0) (.int .i64 0) (.int .i64 9) (.int .i64 0) HY8.out HY10.out n5)
           unfold wr9 at HF
           have HBX := Zd (HB3.out.trans (HB7.out.mono HB3.out.size))
           generalize (((((((((w4.setCell ⟨w.heap.size + 1, 0, none⟩ (.int .i64 g1)).setCell ⟨w.heap.size + 1, 1, none⟩ (.int .i64 p1)).setCell ⟨w.heap.size + 1, 2, none⟩ (.bool u1)).setCell ⟨w.heap.size + 1, 3, none⟩ (.bool k1)).setCell ⟨w.heap.size + 1, 4, none⟩ (.slice A1 m d1)).setCell ⟨w.heap.size + 1 + 1, 0, none⟩ (.int .i64 0)).setCell ⟨w.heap.size + 1 + 1, 1, none⟩ (.int .i64 0)).setCell ⟨w.heap.size + 1 + 1, 2, none⟩ (.int .i64 9)).setCell ⟨w.heap.size + 1 + 1, 3, none⟩ (.int .i64 0)) = V at *
           have hlt8 : w.heap.size + 1 < W0.heap.size := HB1.out.lt
           have hlt10 : w.heap.size + 1 + 1 < W0.heap.size := HB2.out.lt
           have hS := HB3.out.size
           have hl8 : (l.map Wtr.p).length = l.length := List.length_map _
           refine bodyPost_ret (v := .tuple #[chnV ⟨g1, p1, u1, k1, A1, d1, l1⟩, .slice A4 (l.map Wtr.p).length c4, rsV ⟨0, 0, 9, 0⟩, .slice none 0 0])
            (ret_cell4 (g := w.heap.size + 1) (g2 := w.heap.size + 1 + 1) rfl rfl (chn_load (x := ⟨g1, p1, u1, k1, A1, d1, l1⟩) HF.out.c (by simp only [Chn.cells, HM.out])) (by first | rfl | (rw [hl8]; rfl)) rfl (rsl_load (r := ⟨0, 0, 9, 0⟩) HF.out.r) rfl) rfl ?_
           refine ⟨⟨g1, p1, u1, k1, A1, d1, l1⟩, A4, c4, l4, none, 0, ?_, ?_, ?_, ?_, ?_, ?_, ?_⟩
           . rw [HV.out]; rfl
           . rw [HV.out]; rfl
           . unfold OwnBuf
             simp only [HM.out]
             exact own_lower (HF.out.own _ _ _ _ _ _ (Nat.lt_of_lt_of_le hlt8 HB5.out.size) (Nat.lt_of_lt_of_le hlt10 HB5.out.size) HO4.out) (Nat.le_trans hS HB5.out.size)
           . rw [HM4.out, HV.out]
           . rw [HV.out]
             exact (HF.out.wts HOW.out (Nat.lt_of_lt_of_le hlt8 HB6.out.size) (Nat.lt_of_lt_of_le hlt10 HB6.out.size)).lower (Nat.le_trans hS HB6.out.size)
           . rw [HV.out]; exact own_nil _ _ _ _
           . exact HBX.out.trans (HF.out.below w.heap.size (by omega) (by omega) HBX.out.size)
end Go.Proofs.YtieglgahfeecbaaGreatDoor
