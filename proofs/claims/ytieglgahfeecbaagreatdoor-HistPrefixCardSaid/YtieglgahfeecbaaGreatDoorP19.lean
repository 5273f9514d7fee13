/- chans: a value is received, both ways. -/
import Derived.Test.YtieglgahfeecbaaGreatDoorP18
set_option maxHeartbeats 64000000
set_option maxRecDepth 100000
namespace Go.Proofs.YtieglgahfeecbaaGreatDoor
open Go.RowKit Go.Sort
attribute [local go_sem ↓] Go.wp_at_zero Go.wp_at_succ
theorem cRecvNone_any (x : Chn) (handle : Int) (A : Option Addr) (n c : Nat) (l : List Wtr) (w : World) (h : WtsAt w A n l) (hx : ChAt w x) (hgo : 0 < x.buf.length) (hf : firstS (l.map Wtr.p) 1 handle = .none) :
  Calls Tryz.prog 225 #[chnV x, .int .i64 handle, .slice A n c] w (RetGot (recvS x.p handle (l.map Wtr.p)) w) := by
 obtain ⟨gen, cap, us, cl, BA, bc, bl⟩ := x
 have HV : Hid (recvS (Chn.p ⟨gen, cap, us, cl, BA, bc, bl⟩) handle (l.map Wtr.p) = match firstS (l.map Wtr.p) 1 handle with
  | .none => ⟨⟨gen, cap, us, cl, bl.drop 1⟩, l.map Wtr.p, ⟨0, 0, 0, bl.getD 0 0⟩, []⟩
  | some (t, i) => ⟨⟨gen, cap, us, cl, (bl ++ [caseV (l.map Wtr.p) t i]).drop 1⟩, (l.map Wtr.p).set t WtP.none, ⟨0, 0, 0, (bl ++ [caseV (l.map Wtr.p) t i]).getD 0 0⟩, [endedS (l.map Wtr.p) t i 0 0]⟩) := Zd rfl
 generalize hG : recvS (Chn.p ⟨gen, cap, us, cl, BA, bc, bl⟩) handle (l.map Wtr.p) = G at *
 clear hG
 have HCP := Zd (fun W (hW : ChAt W ⟨gen, cap, us, cl, BA, bc, bl⟩) => cCopy_any ⟨gen, cap, us, cl, BA, bc, bl⟩ W hW)
 have HWC := Zd (fun W (hW : WtsAt W A n l) => wCopy_any A n c l W hW)
 have HF2 := Zd (fun W (hW : WtsAt W A n l) => wFirst_any A n c l 1 handle W hW)
 have HEN := Zd (fun W (hW : WtsAt W A n l) (t : Nat) (i : Int) (ht : t < n) => cEnded_any A n c l t i 0 0 W hW ht)
 have HCU := Zd (fun W (hW : WtsAt W A n l) (t : Int) => wCut_any A n c l t W hW)
 obtain ⟨b0, b1, b2, hb3⟩ := box3 w 124 124 42 [.int .i64 gen, .int .i64 cap, .bool us, .bool cl, .slice BA bl.length bc] [.int .i64 0, .int .i64 0, .bool false, .bool false, .slice none 0 0] [.int .i64 0, .int .i64 0, .int .i64 0, .int .i64 0]
 have HB0 := Zd b0
 have HB1 := Zd b1
 have HB2 := Zd b2
 have HB3 := Zd hb3
 have HX := Zd (hx.below hb3)
 have HMB0 := Zd hx.few
 have HW := Zd (h.below hb3)
 clear b0 b1 b2 hb3 hx h
 unfold chnV
 simp only
 unfold chnV at HCP
 simp only at HCP
 simp only at hgo
 generalize hm : bl.length = m at *
 have HM := Zd hm
 have HMB : Hid (m <= 2097152) := Zd (by have h := HMB0.out; have e : bl.length = m := HM.out; rw [<- e]; omega)
 clear hm
 rw [hf] at HV HF2
 simp only at HV
 clear hf
 go_enter Tryz.func225, Tryz.ntmps225
 go_upto_region 1 with fail
 generalize ((w.alloc (.cells #[.int .i64 gen, .int .i64 cap, .bool us, .bool cl, .slice BA m bc] 124)).alloc (.cells #[.int .i64 0, .int .i64 0, .bool false, .bool false, .slice none 0 0] 124)).alloc (.cells #[.int .i64 0, .int .i64 0, .int .i64 0, .int .i64 0] 42) = W0 at *
 obtain ⟨y0, y1, y2, y3, y4, _⟩ := chnBox HB0.out
 go_wp2_with (first
  | (refine (HCP.out _ HX.out).mono ?_; rintro er w1 ⟨⟨g1, p1, u1, k1, A1, d1, l1⟩, rfl, hp1, hown1, hb1⟩
     simp only [Chn.p, ChP.mk.injEq] at hp1
     obtain ⟨rfl, rfl, rfl, rfl, rfl⟩ := hp1
     unfold chnV
     simp only [HM.out]
     have HO1 : Hid (w1.ownsRow W0.heap.size 3 1 (.slice A1 m d1) m (ints l1)) := Zd (by have := hown1; unfold OwnBuf at this; simp only [HM.out] at this; exact this)
     have ha := (Below.refl w1.heap.size w1).alloc (Nat.le_refl _) (.cells #[.int .i64 g1, .int .i64 p1, .bool u1, .bool k1, .slice A1 m d1] 124)
     have HB4 := Zd (hb1.trans (ha.mono hb1.size))
     have HO4 := Zd (own_below HO1.out ha)
     have HX4 := Zd (Blk.new w1 124 [.int .i64 g1, .int .i64 p1, .bool u1, .bool k1, .slice A1 m d1])
     have HS1 := Zd hb1.size
     clear hown1 hb1 ha y0 y1 y2 y3 y4)
  | (refine (HF2.out _ (HW.out.below HB4.out)).mono ?_; rintro er w2 ⟨rfl, hb2⟩
     have HB5 := Zd (btr HB4.out hb2)
     have HO5 := Zd (own_below HO4.out hb2)
     have HX5 := Zd (HX4.out.below hb2 HX4.out.lt)
     have r4 := HX5.out.cell (i := 4) rfl
     have hcg := (own_rd HO5.out).at_ (by rw [ints_length, HM.out]; exact hgo)
     obtain ⟨gB, oB, hAB, hlB, hcB⟩ := hcg
     have q0 := hcB 0 _ (ints_at (by rw [HM.out]; exact hgo))
     rw [Nat.add_zero] at q0
     have HCB := Zd hcB
     clear hcB
     have HRD1 : Hid (Rd w2 (some ⟨gB, oB + 1, none⟩) (ints (l1.drop 1))) := Zd (.inr ⟨gB, oB + 1, rfl, hlB, fun k v hk => by
      have e : ints (l1.drop 1) = (ints l1).drop 1 := by simp [ints]
      rw [e, List.getElem?_drop] at hk
      have := HCB.out (1 + k) v hk
      rwa [<- Nat.add_assoc] at this⟩)
     generalize hv0 : l1.getD 0 0 = v0 at q0
     have HV0 := Zd hv0
     clear hv0
     have hmd : m <= d1 := own_le HO1.out
     have HLD : Hid ((ints (l1.drop 1)).length = (m - 1) * 1) := Zd (by rw [ints_length, List.length_drop, HM.out, Nat.mul_one])
     subst hAB
     have r5 := HX5.out.frozen 4
     have k12 : w1.heap.size < w2.heap.size := HX5.out.lt
     clear hb2)
  | (refine (CloneI_any _ (m - 1) _ (ints (l1.drop 1)) _ (by have := HMB.out; omega) HLD.out (ints_one _) (by first | exact HRD1.out | exact .inl (List.eq_nil_of_length_eq_zero (by rw [HLD.out]; omega)))).mono ?_
     rintro er w6 ⟨A6, d6, rfl, hown6, hb6⟩
     have HO6 := Zd hown6
     have HX6 := Zd (HX5.out.below hb6 HX5.out.lt)
     have HB6 := Zd (btr HB5.out hb6)
     have HS6 := Zd HB5.out.size
     have s4 := HX6.out.cell (i := 4) rfl
     have s5 := HX6.out.frozen 4
     clear hown6 hb6 r4 r5 k12))
 all_goals
  have HX7 := Zd (HX6.out.set_ 4 (.slice A6 (m - 1) d6))
  have HO7 := Zd (own_ty (own_lower HO6.out HS6.out) HX6.out (by decide) 4 (.slice A6 (m - 1) d6))
  have HB7 := Zd (HB6.out.setCell (p := ⟨w1.heap.size, 4, none⟩) HS1.out (.slice A6 (m - 1) d6))
  clear s4 s5
  generalize w6.setCell ⟨w1.heap.size, 4, none⟩ (.slice A6 (m - 1) d6) = W7 at *
  have HW7 := Zd (HW.out.below HB7.out)
  have HT7 := Zd HX7.out.lt
  have x0 := HX7.out.cell (i := 0) rfl
  have x1 := HX7.out.cell (i := 1) rfl
  have x2 := HX7.out.cell (i := 2) rfl
  have x3 := HX7.out.cell (i := 3) rfl
  have x4 := HX7.out.cell (i := 4) rfl
  have HCALL := Zd (fun W (hW : Below W7.heap.size W7 W) => HWC.out W (HW7.out.below hW))
  go_region_with (refine (HCALL.out _ (by first | exact Below.refl _ _ | exact (Below.refl _ _).drew)).mono ?_
                  rintro er w8 ⟨A8, c8, l8, rfl, hm8, hown8, hb8⟩
                  have HM8 := Zd hm8
                  have HOW := Zd hown8
                  have hb8' : Below W7.heap.size W7 w8 := by first | exact hb8 | exact (Below.refl _ _).drew.trans hb8
                  have HB8 := Zd hb8'
                  have HX8 := Zd (HX7.out.below hb8' HT7.out)
                  have HB9 := Zd (HB7.out.trans (hb8'.mono HB7.out.size))
                  have HY8 := Zd (HB1.out.below HB9.out HB1.out.lt)
                  have HY10 := Zd (HB2.out.below HB9.out HB2.out.lt)
                  have r0 := HX8.out.cell (i := 0) rfl
                  have r1 := HX8.out.cell (i := 1) rfl
                  have r2 := HX8.out.cell (i := 2) rfl
                  have r3 := HX8.out.cell (i := 3) rfl
                  have r4 := HX8.out.cell (i := 4) rfl
                  have e0 := HY8.out.cell (i := 0) rfl
                  have ze0 := HY8.out.frozen 0
                  have e1 := HY8.out.cell (i := 1) rfl
                  have ze1 := HY8.out.frozen 1
                  have e2 := HY8.out.cell (i := 2) rfl
                  have ze2 := HY8.out.frozen 2
                  have e3 := HY8.out.cell (i := 3) rfl
                  have ze3 := HY8.out.frozen 3
                  have e4 := HY8.out.cell (i := 4) rfl
                  have ze4 := HY8.out.frozen 4
                  have f0 := HY10.out.cell (i := 0) rfl
                  have zf0 := HY10.out.frozen 0
                  have f1 := HY10.out.cell (i := 1) rfl
                  have zf1 := HY10.out.frozen 1
                  have f2 := HY10.out.cell (i := 2) rfl
                  have zf2 := HY10.out.frozen 2
                  have f3 := HY10.out.cell (i := 3) rfl
                  have zf3 := HY10.out.frozen 3
                  clear hm8 hown8 hb8 hb8')
  all_goals
   have n5 : w.heap.size + 1 ≠ w.heap.size + 1 + 1 := by omega
   have HF := Zd (wr9_facts (.int .i64 g1) (.int .i64 p1) (.bool u1) (.bool k1) (.slice A6 (m - 1) d6) (.int .i64 0) (.int .i64 0) (.int .i64 0) (.int .i64 v0) HY8.out HY10.out n5)
   unfold wr9 at HF
   have HBX := Zd (HB3.out.trans (HB9.out.mono HB3.out.size))
   go_wp2_with fail
   generalize (((((((((w8.setCell ⟨w.heap.size + 1, 0, none⟩ (.int .i64 g1)).setCell ⟨w.heap.size + 1, 1, none⟩ (.int .i64 p1)).setCell ⟨w.heap.size + 1, 2, none⟩ (.bool u1)).setCell ⟨w.heap.size + 1, 3, none⟩ (.bool k1)).setCell ⟨w.heap.size + 1, 4, none⟩ (.slice A6 (m - 1) d6)).setCell ⟨w.heap.size + 1 + 1, 0, none⟩ (.int .i64 0)).setCell ⟨w.heap.size + 1 + 1, 1, none⟩ (.int .i64 0)).setCell ⟨w.heap.size + 1 + 1, 2, none⟩ (.int .i64 0)).setCell ⟨w.heap.size + 1 + 1, 3, none⟩ (.int .i64 v0)) = V at *
   have hlt8 : w.heap.size + 1 < W0.heap.size := HB1.out.lt
   have hlt10 : w.heap.size + 1 + 1 < W0.heap.size := HB2.out.lt
   have hS := HB3.out.size
   have hl8 : (l.map Wtr.p).length = l.length := List.length_map _
   refine bodyPost_ret (v := .tuple #[chnV ⟨g1, p1, u1, k1, A6, d6, l1.drop 1⟩, .slice A8 (l.map Wtr.p).length c8, rsV ⟨0, 0, 0, v0⟩, .slice none 0 0])
    (ret_cell4 (g := w.heap.size + 1) (g2 := w.heap.size + 1 + 1) rfl rfl (chn_load (x := ⟨g1, p1, u1, k1, A6, d6, l1.drop 1⟩) HF.out.c (by simp only [Chn.cells, List.length_drop, HM.out])) (by rw [hl8]; rfl) rfl (rsl_load (r := ⟨0, 0, 0, v0⟩) HF.out.r) rfl) rfl ?_
   refine ⟨⟨g1, p1, u1, k1, A6, d6, l1.drop 1⟩, A8, c8, l8, none, 0, ?_, ?_, ?_, ?_, ?_, ?_, ?_⟩
   . rw [HV.out, HV0.out]; rfl
   . rw [HV.out]; rfl
   . unfold OwnBuf
     simp only [List.length_drop, HM.out]
     exact own_lower (HF.out.own _ _ _ _ _ _ hlt8 hlt10 (own_below HO7.out HB8.out)) hS
   . rw [HM8.out, HV.out]
   . rw [HV.out]
     exact (HF.out.wts HOW.out (Nat.lt_of_lt_of_le hlt8 HB7.out.size) (Nat.lt_of_lt_of_le hlt10 HB7.out.size)).lower (Nat.le_trans hS HB7.out.size)
   . rw [HV.out]; exact own_nil _ _ _ _
   . exact HBX.out.trans (HF.out.below w.heap.size (by omega) (by omega) HBX.out.size)
theorem cRecvSome_any (x : Chn) (handle : Int) (A : Option Addr) (n c : Nat) (l : List Wtr) (w : World) (h : WtsAt w A n l) (hx : ChAt w x) (t : Nat) (i : Int) (hf : firstS (l.map Wtr.p) 1 handle = some (t, i)) :
  Calls Tryz.prog 225 #[chnV x, .int .i64 handle, .slice A n c] w (RetGot (recvS x.p handle (l.map Wtr.p)) w) := by
 obtain ⟨gen, cap, us, cl, BA, bc, bl⟩ := x
 have HV : Hid (recvS (Chn.p ⟨gen, cap, us, cl, BA, bc, bl⟩) handle (l.map Wtr.p) = match firstS (l.map Wtr.p) 1 handle with
  | .none => ⟨⟨gen, cap, us, cl, bl.drop 1⟩, l.map Wtr.p, ⟨0, 0, 0, bl.getD 0 0⟩, []⟩
  | some (t, i) => ⟨⟨gen, cap, us, cl, (bl ++ [caseV (l.map Wtr.p) t i]).drop 1⟩, (l.map Wtr.p).set t WtP.none, ⟨0, 0, 0, (bl ++ [caseV (l.map Wtr.p) t i]).getD 0 0⟩, [endedS (l.map Wtr.p) t i 0 0]⟩) := Zd rfl
 generalize hG : recvS (Chn.p ⟨gen, cap, us, cl, BA, bc, bl⟩) handle (l.map Wtr.p) = G at *
 clear hG
 have HCP := Zd (fun W (hW : ChAt W ⟨gen, cap, us, cl, BA, bc, bl⟩) => cCopy_any ⟨gen, cap, us, cl, BA, bc, bl⟩ W hW)
 have HWC := Zd (fun W (hW : WtsAt W A n l) => wCopy_any A n c l W hW)
 have HF2 := Zd (fun W (hW : WtsAt W A n l) => wFirst_any A n c l 1 handle W hW)
 have HEN := Zd (fun W (hW : WtsAt W A n l) (t : Nat) (i : Int) (ht : t < n) => cEnded_any A n c l t i 0 0 W hW ht)
 have HCU := Zd (fun W (hW : WtsAt W A n l) (t : Int) => wCut_any A n c l t W hW)
 obtain ⟨b0, b1, b2, hb3⟩ := box3 w 124 124 42 [.int .i64 gen, .int .i64 cap, .bool us, .bool cl, .slice BA bl.length bc] [.int .i64 0, .int .i64 0, .bool false, .bool false, .slice none 0 0] [.int .i64 0, .int .i64 0, .int .i64 0, .int .i64 0]
 have HB0 := Zd b0
 have HB1 := Zd b1
 have HB2 := Zd b2
 have HB3 := Zd hb3
 have HX := Zd (hx.below hb3)
 have HMB0 := Zd hx.few
 have HW := Zd (h.below hb3)
 clear b0 b1 b2 hb3 hx h
 unfold chnV
 simp only
 unfold chnV at HCP
 simp only at HCP
 generalize hm : bl.length = m at *
 have HM := Zd hm
 have HMB : Hid (m <= 2097152) := Zd (by have h := HMB0.out; have e : bl.length = m := HM.out; rw [<- e]; omega)
 clear hm
 have HCT := Zd (cut_first hf)
 obtain ⟨h1, h2, h3, h4, h5⟩ := first_on hf
 rw [wtr_map_getD] at h2 h4 h5
 have htn : t < n := by rw [List.length_map, HW.out.len] at h1; exact h1
 have hcv : caseV (l.map Wtr.p) t i = ((l.getD t Wtr.none).cs.getD i.toNat Cse.none).value := by unfold caseV; rw [wtr_map_getD]; rfl
 rw [hf] at HV HF2
 simp only at HV
 rw [hcv] at HV
 clear hf h1 h2 h4 hcv
 obtain ⟨j, rfl⟩ : ∃ j : Nat, i = j := ⟨i.toNat, by omega⟩
 rw [Int.toNat_natCast] at HV
 have hjl : j < (l.getD t Wtr.none).cs.length := by have : (j : Int) < ((l.getD t Wtr.none).cs.length : Int) := h5; omega
 have hmem : l.getD t Wtr.none ∈ l := mem_getD (by rw [HW.out.len]; exact htn)
 have HTN := Zd htn
 have HJL := Zd hjl
 have HMEM := Zd hmem
 clear htn hjl hmem h3 h5
 go_enter Tryz.func225, Tryz.ntmps225
 go_upto_region 1 with fail
 generalize ((w.alloc (.cells #[.int .i64 gen, .int .i64 cap, .bool us, .bool cl, .slice BA m bc] 124)).alloc (.cells #[.int .i64 0, .int .i64 0, .bool false, .bool false, .slice none 0 0] 124)).alloc (.cells #[.int .i64 0, .int .i64 0, .int .i64 0, .int .i64 0] 42) = W0 at *
 obtain ⟨y0, y1, y2, y3, y4, _⟩ := chnBox HB0.out
 go_wp2_with (first
  | (refine (HCP.out _ HX.out).mono ?_; rintro er w1 ⟨⟨g1, p1, u1, k1, A1, d1, l1⟩, rfl, hp1, hown1, hb1⟩
     simp only [Chn.p, ChP.mk.injEq] at hp1
     obtain ⟨rfl, rfl, rfl, rfl, rfl⟩ := hp1
     unfold chnV
     simp only [HM.out]
     have HO1 : Hid (w1.ownsRow W0.heap.size 3 1 (.slice A1 m d1) m (ints l1)) := Zd (by have := hown1; unfold OwnBuf at this; simp only [HM.out] at this; exact this)
     have ha := (Below.refl w1.heap.size w1).alloc (Nat.le_refl _) (.cells #[.int .i64 g1, .int .i64 p1, .bool u1, .bool k1, .slice A1 m d1] 124)
     have HB4 := Zd (hb1.trans (ha.mono hb1.size))
     have HO4 := Zd (own_below HO1.out ha)
     have HX4 := Zd (Blk.new w1 124 [.int .i64 g1, .int .i64 p1, .bool u1, .bool k1, .slice A1 m d1])
     have HS1 := Zd hb1.size
     clear hown1 hb1 ha y0 y1 y2 y3 y4)
  | (refine (HF2.out _ (HW.out.below HB4.out)).mono ?_; rintro er w2 ⟨rfl, hb2⟩
     have HB5 := Zd (btr HB4.out hb2)
     have HO5 := Zd (own_below HO4.out hb2)
     have HX5 := Zd (HX4.out.below hb2 HX4.out.lt)
     clear hb2))
 obtain ⟨bR, oR, hAR, hbR0, _, _, _, hcR0⟩ := HW.out.pat HTN.out
 have hcR := (HB5.out.cell (p := ⟨bR, oR + t * 4 + 3, none⟩) hbR0).trans hcR0
 have hbR : bR < w2.heap.size := Nat.lt_of_lt_of_le hbR0 HB5.out.size
 subst hAR
 obtain ⟨bC, oC, hAC, hbC0, hcC⟩ := (HW.out.cs _ HMEM.out).at_ (by rw [rows_length]; exact Nat.mul_pos (by have := HJL.out; omega) (by decide))
 obtain ⟨_, _, hcv0⟩ := cse_cells hcC HJL.out rfl
 have hcv := (HB5.out.cell (p := ⟨bC, oC + j * 3 + 2, none⟩) hbC0).trans hcv0
 have hbC : bC < w2.heap.size := Nat.lt_of_lt_of_le hbC0 HB5.out.size
 have HLR := Zd hbR0
 have HLC := Zd hbC0
 clear hcR0 hcv0 hbR0 hbC0
 have hjl := HJL.out
 clear hcC
 rw [hAC] at hcR
 generalize ((l.getD t Wtr.none).cs.getD j Cse.none).value = cv at *
 generalize (l.getD t Wtr.none).cs.length = cl at *
 generalize (l.getD t Wtr.none).c = cc at *
 have r4 := HX5.out.cell (i := 4) rfl
 have z4 := HX5.out.frozen 4
 have k12 : w1.heap.size < w2.heap.size := HX5.out.lt
 have ha := (Below.refl w2.heap.size w2).alloc (Nat.le_refl _) (.cells #[.int .i64 cv] 3)
 have HOA : Hid ((w2.alloc (.cells #[.int .i64 cv] 3)).drew.ownsRow W0.heap.size 3 1 (.slice A1 m d1) m (ints l1)) := Zd (own_below HO5.out ha.drew)
 have HRA : Hid (Rd (w2.alloc (.cells #[.int .i64 cv] 3)).drew (some ⟨w2.heap.size, 0, none⟩) (ints [cv])) := Zd ((Blk.new w2 3 [.int .i64 cv]).drew.rd)
 have HSA : Hid (W0.heap.size <= (w2.alloc (.cells #[.int .i64 cv] 3)).drew.heap.size) := Zd (Nat.le_trans HB5.out.size ha.drew.size)
 have HKK : Hid (some w1.heap.size ≠ Value.ownBlock (.slice A1 m d1)) := Zd (fun e => by have := own_in HO1.out _ e.symm; omega)
 have hl1 : bR < w2.heap.size := hbR
 have hl2 : bC < w2.heap.size := hbC
 have r4a := fun ob => (HX5.out.alloc ob).cell (i := 4) rfl
 have c1a : ∀ ob, (w2.alloc ob).cell? ⟨bR, oR + t * 4 + 3, none⟩ = some (.slice (some ⟨bC, oC, none⟩) cl cc) := fun ob => by rw [World.cell?_alloc_lt _ _ _ (by exact hbR)]; exact hcR
 have c2a : ∀ ob, (w2.alloc ob).cell? ⟨bC, oC + j * 3 + 2, none⟩ = some (.int .i64 cv) := fun ob => by rw [World.cell?_alloc_lt _ _ _ (by exact hbC)]; exact hcv
 have q1 : (j : Int) < (cl : Int) := by omega
 have q2 : (t : Int) < (n : Int) := by have := HTN.out; omega
 have et : trd (some (t, (j : Int))) = (t : Int) := rfl
 have ew : wch (some (t, (j : Int))) = (j : Int) := rfl
 clear ha
 rw [et, ew]
 refine wp_region_held_drew (S := fun w' => w'.cell? ⟨bR, oR + t * 4 + 3, none⟩ = some (.slice (some ⟨bC, oC, none⟩) cl cc) /\ w'.cell? ⟨bC, oC + j * 3 + 2, none⟩ = some (.int .i64 cv)) (by kernel_rfl) (⟨hcR, hcv⟩) (fun hHeld => ?_)
 refine tkHp 0 (.pointer (some ⟨w1.heap.size, 4, none⟩)) rfl hHeld ?_
 refine tkHp 2 (.slice (some ⟨bR, oR, none⟩) n c) rfl hHeld ?_
 refine tkHp 3 (.int .i64 (t : Int)) rfl hHeld ?_
 refine tkHp 4 (.pointer (some ⟨bR, oR + t * 4, none⟩)) rfl hHeld ?_
 refine tkHp 5 (.pointer (some ⟨bR, oR + t * 4 + 3, none⟩)) rfl hHeld ?_
 refine tkH 6 (.slice (some ⟨bC, oC, none⟩) cl cc) rfl (Or.inl ⟨by rfl, fun w hSw => by obtain ⟨h1, h2⟩ := hSw; go_simp⟩) hHeld ?_
 refine tkHp 7 (.int .i64 (j : Int)) rfl hHeld ?_
 refine tkHp 8 (.pointer (some ⟨bC, oC + j * 3, none⟩)) rfl hHeld ?_
 refine tkHp 9 (.pointer (some ⟨bC, oC + j * 3 + 2, none⟩)) rfl hHeld ?_
 refine tkH 10 (.int .i64 cv) rfl (Or.inl ⟨by rfl, fun w hSw => by obtain ⟨h1, h2⟩ := hSw; go_simp⟩) hHeld ?_
 try simp only [Nrq, Nrs]
 refine wpAnyH_ready (rs := [1, 11]) (by kernel_rfl) (by simp) ?_
 refine AllReadyH.cons rfl (fun K hK => ?_) (AllReadyH.cons rfl (fun K hK => ?_) AllReadyH.nil)
 . rw [if_pos (by rfl)]
   simp only [Nrq]
   go_simp
   refine hK.out _ _ hHeld (fun hHeld => ?_)
   clear hK K
   try simp only [Nrq, Nrs]
   refine wpAnyH_ready (rs := [11]) (by kernel_rfl) (by simp) ?_
   refine AllReadyH.cons rfl (fun K hK => ?_) AllReadyH.nil
   rw [if_pos (by rfl)]
   simp only [Nrq]
   go_simp
   refine hK.out _ _ ⟨c1a _, c2a _⟩ (fun hHeld => ?_)
   clear hK K
   try simp only [Nrq, Nrs]
   refine wpAnyH_ready (rs := [12]) (by kernel_rfl) (by simp) ?_
   refine AllReadyH.cons rfl (fun K hK => ?_) AllReadyH.nil
   rw [if_pos (by rfl)]
   simp only [Nrq]
   refine wp_app (.tmp 45) (.tmp 55) 22 3 rfl W0.heap.size (.int .i64 0) 1 8 Tryz.underlying22 int_info rfl (by decide) A1 m d1 (ints l1) (by rfl) (HOA.out) (some ⟨w2.heap.size, 0, none⟩) 1 1 (ints [cv]) (by rfl) (by simp) rfl (HRA.out) (ints_one _) (m + 1) rfl (ints (l1 ++ [cv])) (by simp [ints]) (by have := HMB.out; unfold maxLen; omega) (by have := HMB.out; omega) (HSA.out) ?_
   intro A6 d6 w6 hown6 hg6 hb6
   have HX6 := Zd (blk_grown ((HX5.out.alloc (.cells #[.int .i64 cv] 3)).drew) hg6 HKK.out)
   have HO6 := Zd hown6
   have HB6 := Zd ((HB5.out.alloc HB5.out.size (.cells #[.int .i64 cv] 3)).drew.trans hb6)
   have s4 := HX6.out.cell (i := 4) rfl
   have s5 := HX6.out.frozen 4
   have g1c := (hb6.cell (p := ⟨bR, oR + t * 4 + 3, none⟩) HLR.out).trans (c1a _)
   have g2c := (hb6.cell (p := ⟨bC, oC + j * 3 + 2, none⟩) HLC.out).trans (c2a _)
   clear hown6 hg6 hb6
   refine hK.out _ _ ⟨g1c, g2c⟩ (fun hHeld => ?_)
   clear hK K
   try simp only [Act.put, List.setIfInBounds_toArray, List.set_cons_zero, List.set_cons_succ]
   refine tkHp 13 (.pointer (some ⟨w1.heap.size, 4, none⟩)) rfl hHeld ?_
   try simp only [Nrq, Nrs]
   refine wpAnyH_ready (rs := [14]) (by kernel_rfl) (by simp) ?_
   refine AllReadyH.cons rfl (fun K hK => ?_) AllReadyH.nil
   rw [if_pos (by rfl)]
   go_simp
   refine hK.out _ _ ⟨(((Below.refl W0.heap.size w6).setCell (p := ⟨w1.heap.size, 4, none⟩) HS1.out _).cell (p := ⟨bR, oR + t * 4 + 3, none⟩) HLR.out).trans g1c, (((Below.refl W0.heap.size w6).setCell (p := ⟨w1.heap.size, 4, none⟩) HS1.out _).cell (p := ⟨bC, oC + j * 3 + 2, none⟩) HLC.out).trans g2c⟩ (fun hHeld => ?_)
   clear hK K
   clear hHeld
   refine wpAnyH_done (by kernel_rfl) ?_ _
   have HX7 := Zd (HX6.out.set_ 4 (.slice A6 (m + 1) d6))
   have HO7 := Zd (own_ty HO6.out HX6.out (by decide) 4 (.slice A6 (m + 1) d6))
   have HB7 := Zd (HB6.out.setCell (p := ⟨w1.heap.size, 4, none⟩) HS1.out (.slice A6 (m + 1) d6))
   clear s4 s5 g1c g2c
   generalize w6.setCell ⟨w1.heap.size, 4, none⟩ (.slice A6 (m + 1) d6) = W7 at *
   have hll : (l1 ++ [cv]).length = m + 1 := by rw [List.length_append, HM.out]; rfl
   have HLL := Zd hll
   obtain ⟨gB, oB, hAB, hlB, hcB⟩ := (own_rd HO7.out).at_ (by rw [ints_length, hll]; omega)
   have q0 := hcB 0 _ (ints_at (by rw [hll]; omega))
   rw [Nat.add_zero] at q0
   have HRD1 : Hid (Rd W7 (some ⟨gB, oB + 1, none⟩) (ints ((l1 ++ [cv]).drop 1))) := Zd (.inr ⟨gB, oB + 1, rfl, hlB, fun k v hk => by
    have e : ints ((l1 ++ [cv]).drop 1) = (ints (l1 ++ [cv])).drop 1 := by simp only [ints, List.map_drop]
    rw [e, List.getElem?_drop] at hk
    have := hcB (1 + k) v hk
    rwa [<- Nat.add_assoc] at this⟩)
   have hmd : m + 1 <= d6 := own_le HO7.out
   have HLD : Hid ((ints ((l1 ++ [cv]).drop 1)).length = m * 1) := Zd (by rw [ints_length, List.length_drop, hll, Nat.mul_one]; omega)
   have HDL : Hid (((l1 ++ [cv]).drop 1).length = m) := Zd (by rw [List.length_drop, hll]; omega)
   generalize hv0 : (l1 ++ [cv]).getD 0 0 = v0 at q0
   have HV0 := Zd hv0
   have HQ0 := Zd q0
   clear hv0 hcB hll q0
   subst hAB
   have q0 := HQ0.out
   have r4 := HX7.out.cell (i := 4) rfl
   have r5 := HX7.out.frozen 4
   have k7 : w1.heap.size < W7.heap.size := HX7.out.lt
   generalize (l1 ++ [cv]).drop 1 = lb at *
   go_wp2_with (first
    | (refine (CloneI_any _ m _ (ints lb) _ (by have := HMB.out; omega) HLD.out (ints_one _) (by first | exact HRD1.out | exact .inl (List.eq_nil_of_length_eq_zero (by rw [HLD.out]; omega)))).mono ?_
       rintro er w8 ⟨A8, d8, rfl, hown8, hb8⟩
       have HX8 := Zd (HX7.out.below hb8 HX7.out.lt)
       have HB8 := Zd (btr HB7.out hb8)
       have HX9 := Zd (HX8.out.set_ 4 (.slice A8 m d8))
       have HO9 := Zd (own_ty (own_lower hown8 HB7.out.size) HX8.out (by decide) 4 (.slice A8 m d8))
       have HB9 := Zd (HB8.out.setCell (p := ⟨w1.heap.size, 4, none⟩) HS1.out (.slice A8 m d8))
       clear q0 r4 r5 k7
       have s4 := HX8.out.cell (i := 4) rfl
       have s5 := HX8.out.frozen 4
       clear hown8 hb8)
    | (refine (HEN.out _ (HW.out.below HB9.out) t (j : Int) HTN.out).mono ?_; rintro er w9 ⟨rfl, hb9⟩
       generalize endedS (l.map Wtr.p) t (j : Int) 0 0 = td at *
       have ha := (Below.refl w9.heap.size w9).alloc (Nat.le_refl _) (.cells #[.int .i64 td.1, .int .i64 td.2.seq, .int .i64 td.2.case_, .int .i64 td.2.code, .int .i64 td.2.value] 233)
       have HB10 := Zd ((btr HB9.out hb9).trans (ha.mono (Nat.le_trans HB9.out.size hb9.size)))
       have HO10 := Zd (own_below (own_below HO9.out hb9) ha)
       have HX10 := Zd ((HX9.out.below hb9 HX9.out.lt).below ha (Nat.lt_of_lt_of_le HX9.out.lt hb9.size))
       have HT10 := Zd (Blk.new w9 233 [.int .i64 td.1, .int .i64 td.2.seq, .int .i64 td.2.case_, .int .i64 td.2.code, .int .i64 td.2.value])
       have HS5 := Zd (Nat.lt_of_lt_of_le HX9.out.lt hb9.size)
       clear hb9 ha s4 s5)
    | (refine (HCU.out _ (HW.out.below HB10.out) (t : Int)).mono ?_; rintro er w11 ⟨A4, c4, l4, rfl, hm4, hown4, hb4⟩
       have HB11 := Zd (btr HB10.out hb4)
       have HO11 := Zd (own_below HO10.out hb4)
       have HX11 := Zd (HX10.out.below hb4 HX10.out.lt)
       have HT11 := Zd (HT10.out.below hb4 HT10.out.lt)
       have HM4 := Zd hm4
       have HOW := Zd hown4
       clear hm4 hown4 hb4))
   all_goals
    have hbx : Below w.heap.size w w11 := HB3.out.trans (HB11.out.mono HB3.out.size)
    have HBX := Zd hbx
    have HY8 := Zd (HB1.out.below HB11.out HB1.out.lt)
    have HY10 := Zd (HB2.out.below HB11.out HB2.out.lt)
    have l0 := HB1.out.lt
    have l1' := HB2.out.lt
    have l2 := HS1.out
    have l3 := HS5.out
    have l4' := HT11.out.lt
    have r0 := HX11.out.cell (i := 0) rfl
    have ra0 := fun ob => (HX11.out.alloc ob).cell (i := 0) rfl
    have r1 := HX11.out.cell (i := 1) rfl
    have ra1 := fun ob => (HX11.out.alloc ob).cell (i := 1) rfl
    have r2 := HX11.out.cell (i := 2) rfl
    have ra2 := fun ob => (HX11.out.alloc ob).cell (i := 2) rfl
    have r3 := HX11.out.cell (i := 3) rfl
    have ra3 := fun ob => (HX11.out.alloc ob).cell (i := 3) rfl
    have r4 := HX11.out.cell (i := 4) rfl
    have ra4 := fun ob => (HX11.out.alloc ob).cell (i := 4) rfl
    have s0 := HT11.out.cell (i := 0) rfl
    have sa0 := fun ob => (HT11.out.alloc ob).cell (i := 0) rfl
    have s1 := HT11.out.cell (i := 1) rfl
    have sa1 := fun ob => (HT11.out.alloc ob).cell (i := 1) rfl
    have s2 := HT11.out.cell (i := 2) rfl
    have sa2 := fun ob => (HT11.out.alloc ob).cell (i := 2) rfl
    have s3 := HT11.out.cell (i := 3) rfl
    have sa3 := fun ob => (HT11.out.alloc ob).cell (i := 3) rfl
    have s4 := HT11.out.cell (i := 4) rfl
    have sa4 := fun ob => (HT11.out.alloc ob).cell (i := 4) rfl
    have e0 := HY8.out.cell (i := 0) rfl
    have ea0 := fun ob => (HY8.out.alloc ob).cell (i := 0) rfl
    have ze0 := HY8.out.frozen 0
    have zea0 := fun ob => (HY8.out.alloc ob).frozen 0
    have e1 := HY8.out.cell (i := 1) rfl
    have ea1 := fun ob => (HY8.out.alloc ob).cell (i := 1) rfl
    have ze1 := HY8.out.frozen 1
    have zea1 := fun ob => (HY8.out.alloc ob).frozen 1
    have e2 := HY8.out.cell (i := 2) rfl
    have ea2 := fun ob => (HY8.out.alloc ob).cell (i := 2) rfl
    have ze2 := HY8.out.frozen 2
    have zea2 := fun ob => (HY8.out.alloc ob).frozen 2
    have e3 := HY8.out.cell (i := 3) rfl
    have ea3 := fun ob => (HY8.out.alloc ob).cell (i := 3) rfl
    have ze3 := HY8.out.frozen 3
    have zea3 := fun ob => (HY8.out.alloc ob).frozen 3
    have e4 := HY8.out.cell (i := 4) rfl
    have ea4 := fun ob => (HY8.out.alloc ob).cell (i := 4) rfl
    have ze4 := HY8.out.frozen 4
    have zea4 := fun ob => (HY8.out.alloc ob).frozen 4
    have f0 := HY10.out.cell (i := 0) rfl
    have fa0 := fun ob => (HY10.out.alloc ob).cell (i := 0) rfl
    have zf0 := HY10.out.frozen 0
    have zfa0 := fun ob => (HY10.out.alloc ob).frozen 0
    have f1 := HY10.out.cell (i := 1) rfl
    have fa1 := fun ob => (HY10.out.alloc ob).cell (i := 1) rfl
    have zf1 := HY10.out.frozen 1
    have zfa1 := fun ob => (HY10.out.alloc ob).frozen 1
    have f2 := HY10.out.cell (i := 2) rfl
    have fa2 := fun ob => (HY10.out.alloc ob).cell (i := 2) rfl
    have zf2 := HY10.out.frozen 2
    have zfa2 := fun ob => (HY10.out.alloc ob).frozen 2
    have f3 := HY10.out.cell (i := 3) rfl
    have fa3 := fun ob => (HY10.out.alloc ob).cell (i := 3) rfl
    have zf3 := HY10.out.frozen 3
    have zfa3 := fun ob => (HY10.out.alloc ob).frozen 3
    have n1 : ¬ w1.heap.size = w.heap.size + 1 := by omega
    have n2 : ¬ w1.heap.size = w.heap.size + 1 + 1 := by omega
    have n3 : ¬ w9.heap.size = w.heap.size + 1 := by omega
    have n4 : ¬ w9.heap.size = w.heap.size + 1 + 1 := by omega
    have n5 : ¬ w.heap.size + 1 = w.heap.size + 1 + 1 := by omega
    have n6 : ¬ w.heap.size + 1 + 1 = w.heap.size + 1 := by omega
    have n7 : ¬ w.heap.size + 1 = w11.heap.size := by omega
    have n8 : ¬ w.heap.size + 1 + 1 = w11.heap.size := by omega
    have n9 : ¬ w1.heap.size = w11.heap.size := by omega
    have n10 : ¬ w9.heap.size = w11.heap.size := by omega
    have k8 : w.heap.size + 1 < w11.heap.size := by omega
    have k10 : w.heap.size + 1 + 1 < w11.heap.size := by omega
    clear l0 l1' l2 l3 l4' hbx
    go_region
    go_wp2_with fail
    have HF := Zd (wr9_facts (.int .i64 g1) (.int .i64 p1) (.bool u1) (.bool k1) (.slice A8 m d8) (.int .i64 0) (.int .i64 0) (.int .i64 0) (.int .i64 v0) HY8.out HY10.out n5)
    unfold wr9 at HF
    generalize (((((((((w11.setCell ⟨w.heap.size + 1, 0, none⟩ (.int .i64 g1)).setCell ⟨w.heap.size + 1, 1, none⟩ (.int .i64 p1)).setCell ⟨w.heap.size + 1, 2, none⟩ (.bool u1)).setCell ⟨w.heap.size + 1, 3, none⟩ (.bool k1)).setCell ⟨w.heap.size + 1, 4, none⟩ (.slice A8 m d8)).setCell ⟨w.heap.size + 1 + 1, 0, none⟩ (.int .i64 0)).setCell ⟨w.heap.size + 1 + 1, 1, none⟩ (.int .i64 0)).setCell ⟨w.heap.size + 1 + 1, 2, none⟩ (.int .i64 0)).setCell ⟨w.heap.size + 1 + 1, 3, none⟩ (.int .i64 v0)) = VV at *
    have HFC := HF.out.c.alloc (.cells #[.int .i64 td.1, .int .i64 td.2.seq, .int .i64 td.2.case_, .int .i64 td.2.code, .int .i64 td.2.value] 233)
    have HFR := HF.out.r.alloc (.cells #[.int .i64 td.1, .int .i64 td.2.seq, .int .i64 td.2.case_, .int .i64 td.2.code, .int .i64 td.2.value] 233)
    have HFT : Blk (VV.alloc (.cells #[.int .i64 td.1, .int .i64 td.2.seq, .int .i64 td.2.case_, .int .i64 td.2.code, .int .i64 td.2.value] 233)) w11.heap.size 233 (Tld.cells td) := blk_new (cs := Tld.cells td) HF.out.size.symm
    have hva := (Below.refl VV.heap.size VV).alloc (Nat.le_refl _) (.cells #[.int .i64 td.1, .int .i64 td.2.seq, .int .i64 td.2.case_, .int .i64 td.2.code, .int .i64 td.2.value] 233)
    generalize VV.alloc (.cells #[.int .i64 td.1, .int .i64 td.2.seq, .int .i64 td.2.case_, .int .i64 td.2.code, .int .i64 td.2.value] 233) = V2 at *
    have hlt8 : w.heap.size + 1 < W0.heap.size := HB1.out.lt
    have hlt10 : w.heap.size + 1 + 1 < W0.heap.size := HB2.out.lt
    have hS := HB3.out.size
    refine bodyPost_ret (v := .tuple #[chnV ⟨g1, p1, u1, k1, A8, d8, lb⟩, .slice A4 (cutS (l.map Wtr.p) (t : Int)).1.length c4, rsV ⟨0, 0, 0, v0⟩, .slice (some ⟨w11.heap.size, 0, none⟩) 1 1])
     (ret_cell4 (g := w.heap.size + 1) (g2 := w.heap.size + 1 + 1) rfl rfl (chn_load (x := ⟨g1, p1, u1, k1, A8, d8, lb⟩) HFC.drew (by simp only [Chn.cells, HDL.out])) rfl rfl (rsl_load (r := ⟨0, 0, 0, v0⟩) HFR.drew) rfl) rfl ?_
    refine ⟨⟨g1, p1, u1, k1, A8, d8, lb⟩, A4, c4, l4, some ⟨w11.heap.size, 0, none⟩, 1, ?_, ?_, ?_, ?_, ?_, ?_, ?_⟩
    . rw [HV.out, HCT.out, HV0.out]; rfl
    . rw [HV.out]; rfl
    . unfold OwnBuf
      simp only [HDL.out]
      exact own_lower (own_below (HF.out.own _ _ _ _ _ _ hlt8 hlt10 HO11.out) hva.drew) hS
    . rw [HM4.out, HCT.out, HV.out]
    . rw [HV.out]
      have h := (HF.out.wts HOW.out (Nat.lt_of_lt_of_le hlt8 HB10.out.size) (Nat.lt_of_lt_of_le hlt10 HB10.out.size)).below hva.drew
      rw [HCT.out] at h
      exact h.lower (Nat.le_trans hS HB10.out.size)
    . rw [HV.out]
      have h := own_blk1 (s := 5) (n := 1) HFT.drew HBX.out.size rfl (by unfold maxLen; omega)
      rw [rows_single]
      exact h
    . have h1 := HF.out.below w.heap.size (by omega) (by omega) HBX.out.size
      exact (HBX.out.trans (h1.trans (hva.mono (by rw [HF.out.size]; exact HBX.out.size)))).drew
 . rw [if_pos (by rfl)]
   simp only [Nrq]
   go_simp
   refine hK.out _ _ ⟨c1a _, c2a _⟩ (fun hHeld => ?_)
   clear hK K
   try simp only [Nrq, Nrs]
   refine wpAnyH_ready (rs := [1]) (by kernel_rfl) (by simp) ?_
   refine AllReadyH.cons rfl (fun K hK => ?_) AllReadyH.nil
   rw [if_pos (by rfl)]
   simp only [Nrq]
   go_simp
   refine hK.out _ _ hHeld (fun hHeld => ?_)
   clear hK K
   try simp only [Nrq, Nrs]
   refine wpAnyH_ready (rs := [12]) (by kernel_rfl) (by simp) ?_
   refine AllReadyH.cons rfl (fun K hK => ?_) AllReadyH.nil
   rw [if_pos (by rfl)]
   simp only [Nrq]
   refine wp_app (.tmp 45) (.tmp 55) 22 3 rfl W0.heap.size (.int .i64 0) 1 8 Tryz.underlying22 int_info rfl (by decide) A1 m d1 (ints l1) (by rfl) (HOA.out) (some ⟨w2.heap.size, 0, none⟩) 1 1 (ints [cv]) (by rfl) (by simp) rfl (HRA.out) (ints_one _) (m + 1) rfl (ints (l1 ++ [cv])) (by simp [ints]) (by have := HMB.out; unfold maxLen; omega) (by have := HMB.out; omega) (HSA.out) ?_
   intro A6 d6 w6 hown6 hg6 hb6
   have HX6 := Zd (blk_grown ((HX5.out.alloc (.cells #[.int .i64 cv] 3)).drew) hg6 HKK.out)
   have HO6 := Zd hown6
   have HB6 := Zd ((HB5.out.alloc HB5.out.size (.cells #[.int .i64 cv] 3)).drew.trans hb6)
   have s4 := HX6.out.cell (i := 4) rfl
   have s5 := HX6.out.frozen 4
   have g1c := (hb6.cell (p := ⟨bR, oR + t * 4 + 3, none⟩) HLR.out).trans (c1a _)
   have g2c := (hb6.cell (p := ⟨bC, oC + j * 3 + 2, none⟩) HLC.out).trans (c2a _)
   clear hown6 hg6 hb6
   refine hK.out _ _ ⟨g1c, g2c⟩ (fun hHeld => ?_)
   clear hK K
   try simp only [Act.put, List.setIfInBounds_toArray, List.set_cons_zero, List.set_cons_succ]
   refine tkHp 13 (.pointer (some ⟨w1.heap.size, 4, none⟩)) rfl hHeld ?_
   try simp only [Nrq, Nrs]
   refine wpAnyH_ready (rs := [14]) (by kernel_rfl) (by simp) ?_
   refine AllReadyH.cons rfl (fun K hK => ?_) AllReadyH.nil
   rw [if_pos (by rfl)]
   go_simp
   refine hK.out _ _ ⟨(((Below.refl W0.heap.size w6).setCell (p := ⟨w1.heap.size, 4, none⟩) HS1.out _).cell (p := ⟨bR, oR + t * 4 + 3, none⟩) HLR.out).trans g1c, (((Below.refl W0.heap.size w6).setCell (p := ⟨w1.heap.size, 4, none⟩) HS1.out _).cell (p := ⟨bC, oC + j * 3 + 2, none⟩) HLC.out).trans g2c⟩ (fun hHeld => ?_)
   clear hK K
   clear hHeld
   refine wpAnyH_done (by kernel_rfl) ?_ _
   have HX7 := Zd (HX6.out.set_ 4 (.slice A6 (m + 1) d6))
   have HO7 := Zd (own_ty HO6.out HX6.out (by decide) 4 (.slice A6 (m + 1) d6))
   have HB7 := Zd (HB6.out.setCell (p := ⟨w1.heap.size, 4, none⟩) HS1.out (.slice A6 (m + 1) d6))
   clear s4 s5 g1c g2c
   generalize w6.setCell ⟨w1.heap.size, 4, none⟩ (.slice A6 (m + 1) d6) = W7 at *
   have hll : (l1 ++ [cv]).length = m + 1 := by rw [List.length_append, HM.out]; rfl
   have HLL := Zd hll
   obtain ⟨gB, oB, hAB, hlB, hcB⟩ := (own_rd HO7.out).at_ (by rw [ints_length, hll]; omega)
   have q0 := hcB 0 _ (ints_at (by rw [hll]; omega))
   rw [Nat.add_zero] at q0
   have HRD1 : Hid (Rd W7 (some ⟨gB, oB + 1, none⟩) (ints ((l1 ++ [cv]).drop 1))) := Zd (.inr ⟨gB, oB + 1, rfl, hlB, fun k v hk => by
    have e : ints ((l1 ++ [cv]).drop 1) = (ints (l1 ++ [cv])).drop 1 := by simp only [ints, List.map_drop]
    rw [e, List.getElem?_drop] at hk
    have := hcB (1 + k) v hk
    rwa [<- Nat.add_assoc] at this⟩)
   have hmd : m + 1 <= d6 := own_le HO7.out
   have HLD : Hid ((ints ((l1 ++ [cv]).drop 1)).length = m * 1) := Zd (by rw [ints_length, List.length_drop, hll, Nat.mul_one]; omega)
   have HDL : Hid (((l1 ++ [cv]).drop 1).length = m) := Zd (by rw [List.length_drop, hll]; omega)
   generalize hv0 : (l1 ++ [cv]).getD 0 0 = v0 at q0
   have HV0 := Zd hv0
   have HQ0 := Zd q0
   clear hv0 hcB hll q0
   subst hAB
   have q0 := HQ0.out
   have r4 := HX7.out.cell (i := 4) rfl
   have r5 := HX7.out.frozen 4
   have k7 : w1.heap.size < W7.heap.size := HX7.out.lt
   generalize (l1 ++ [cv]).drop 1 = lb at *
   go_wp2_with (first
    | (refine (CloneI_any _ m _ (ints lb) _ (by have := HMB.out; omega) HLD.out (ints_one _) (by first | exact HRD1.out | exact .inl (List.eq_nil_of_length_eq_zero (by rw [HLD.out]; omega)))).mono ?_
       rintro er w8 ⟨A8, d8, rfl, hown8, hb8⟩
       have HX8 := Zd (HX7.out.below hb8 HX7.out.lt)
       have HB8 := Zd (btr HB7.out hb8)
       have HX9 := Zd (HX8.out.set_ 4 (.slice A8 m d8))
       have HO9 := Zd (own_ty (own_lower hown8 HB7.out.size) HX8.out (by decide) 4 (.slice A8 m d8))
       have HB9 := Zd (HB8.out.setCell (p := ⟨w1.heap.size, 4, none⟩) HS1.out (.slice A8 m d8))
       clear q0 r4 r5 k7
       have s4 := HX8.out.cell (i := 4) rfl
       have s5 := HX8.out.frozen 4
       clear hown8 hb8)
    | (refine (HEN.out _ (HW.out.below HB9.out) t (j : Int) HTN.out).mono ?_; rintro er w9 ⟨rfl, hb9⟩
       generalize endedS (l.map Wtr.p) t (j : Int) 0 0 = td at *
       have ha := (Below.refl w9.heap.size w9).alloc (Nat.le_refl _) (.cells #[.int .i64 td.1, .int .i64 td.2.seq, .int .i64 td.2.case_, .int .i64 td.2.code, .int .i64 td.2.value] 233)
       have HB10 := Zd ((btr HB9.out hb9).trans (ha.mono (Nat.le_trans HB9.out.size hb9.size)))
       have HO10 := Zd (own_below (own_below HO9.out hb9) ha)
       have HX10 := Zd ((HX9.out.below hb9 HX9.out.lt).below ha (Nat.lt_of_lt_of_le HX9.out.lt hb9.size))
       have HT10 := Zd (Blk.new w9 233 [.int .i64 td.1, .int .i64 td.2.seq, .int .i64 td.2.case_, .int .i64 td.2.code, .int .i64 td.2.value])
       have HS5 := Zd (Nat.lt_of_lt_of_le HX9.out.lt hb9.size)
       clear hb9 ha s4 s5)
    | (refine (HCU.out _ (HW.out.below HB10.out) (t : Int)).mono ?_; rintro er w11 ⟨A4, c4, l4, rfl, hm4, hown4, hb4⟩
       have HB11 := Zd (btr HB10.out hb4)
       have HO11 := Zd (own_below HO10.out hb4)
       have HX11 := Zd (HX10.out.below hb4 HX10.out.lt)
       have HT11 := Zd (HT10.out.below hb4 HT10.out.lt)
       have HM4 := Zd hm4
       have HOW := Zd hown4
       clear hm4 hown4 hb4))
   all_goals
    have hbx : Below w.heap.size w w11 := HB3.out.trans (HB11.out.mono HB3.out.size)
    have HBX := Zd hbx
    have HY8 := Zd (HB1.out.below HB11.out HB1.out.lt)
    have HY10 := Zd (HB2.out.below HB11.out HB2.out.lt)
    have l0 := HB1.out.lt
    have l1' := HB2.out.lt
    have l2 := HS1.out
    have l3 := HS5.out
    have l4' := HT11.out.lt
    have r0 := HX11.out.cell (i := 0) rfl
    have ra0 := fun ob => (HX11.out.alloc ob).cell (i := 0) rfl
    have r1 := HX11.out.cell (i := 1) rfl
    have ra1 := fun ob => (HX11.out.alloc ob).cell (i := 1) rfl
    have r2 := HX11.out.cell (i := 2) rfl
    have ra2 := fun ob => (HX11.out.alloc ob).cell (i := 2) rfl
    have r3 := HX11.out.cell (i := 3) rfl
    have ra3 := fun ob => (HX11.out.alloc ob).cell (i := 3) rfl
    have r4 := HX11.out.cell (i := 4) rfl
    have ra4 := fun ob => (HX11.out.alloc ob).cell (i := 4) rfl
    have s0 := HT11.out.cell (i := 0) rfl
    have sa0 := fun ob => (HT11.out.alloc ob).cell (i := 0) rfl
    have s1 := HT11.out.cell (i := 1) rfl
    have sa1 := fun ob => (HT11.out.alloc ob).cell (i := 1) rfl
    have s2 := HT11.out.cell (i := 2) rfl
    have sa2 := fun ob => (HT11.out.alloc ob).cell (i := 2) rfl
    have s3 := HT11.out.cell (i := 3) rfl
    have sa3 := fun ob => (HT11.out.alloc ob).cell (i := 3) rfl
    have s4 := HT11.out.cell (i := 4) rfl
    have sa4 := fun ob => (HT11.out.alloc ob).cell (i := 4) rfl
    have e0 := HY8.out.cell (i := 0) rfl
    have ea0 := fun ob => (HY8.out.alloc ob).cell (i := 0) rfl
    have ze0 := HY8.out.frozen 0
    have zea0 := fun ob => (HY8.out.alloc ob).frozen 0
    have e1 := HY8.out.cell (i := 1) rfl
    have ea1 := fun ob => (HY8.out.alloc ob).cell (i := 1) rfl
    have ze1 := HY8.out.frozen 1
    have zea1 := fun ob => (HY8.out.alloc ob).frozen 1
    have e2 := HY8.out.cell (i := 2) rfl
    have ea2 := fun ob => (HY8.out.alloc ob).cell (i := 2) rfl
    have ze2 := HY8.out.frozen 2
    have zea2 := fun ob => (HY8.out.alloc ob).frozen 2
    have e3 := HY8.out.cell (i := 3) rfl
    have ea3 := fun ob => (HY8.out.alloc ob).cell (i := 3) rfl
    have ze3 := HY8.out.frozen 3
    have zea3 := fun ob => (HY8.out.alloc ob).frozen 3
    have e4 := HY8.out.cell (i := 4) rfl
    have ea4 := fun ob => (HY8.out.alloc ob).cell (i := 4) rfl
    have ze4 := HY8.out.frozen 4
    have zea4 := fun ob => (HY8.out.alloc ob).frozen 4
    have f0 := HY10.out.cell (i := 0) rfl
    have fa0 := fun ob => (HY10.out.alloc ob).cell (i := 0) rfl
    have zf0 := HY10.out.frozen 0
    have zfa0 := fun ob => (HY10.out.alloc ob).frozen 0
    have f1 := HY10.out.cell (i := 1) rfl
    have fa1 := fun ob => (HY10.out.alloc ob).cell (i := 1) rfl
    have zf1 := HY10.out.frozen 1
    have zfa1 := fun ob => (HY10.out.alloc ob).frozen 1
    have f2 := HY10.out.cell (i := 2) rfl
    have fa2 := fun ob => (HY10.out.alloc ob).cell (i := 2) rfl
    have zf2 := HY10.out.frozen 2
    have zfa2 := fun ob => (HY10.out.alloc ob).frozen 2
    have f3 := HY10.out.cell (i := 3) rfl
    have fa3 := fun ob => (HY10.out.alloc ob).cell (i := 3) rfl
    have zf3 := HY10.out.frozen 3
    have zfa3 := fun ob => (HY10.out.alloc ob).frozen 3
    have n1 : ¬ w1.heap.size = w.heap.size + 1 := by omega
    have n2 : ¬ w1.heap.size = w.heap.size + 1 + 1 := by omega
    have n3 : ¬ w9.heap.size = w.heap.size + 1 := by omega
    have n4 : ¬ w9.heap.size = w.heap.size + 1 + 1 := by omega
    have n5 : ¬ w.heap.size + 1 = w.heap.size + 1 + 1 := by omega
    have n6 : ¬ w.heap.size + 1 + 1 = w.heap.size + 1 := by omega
    have n7 : ¬ w.heap.size + 1 = w11.heap.size := by omega
    have n8 : ¬ w.heap.size + 1 + 1 = w11.heap.size := by omega
    have n9 : ¬ w1.heap.size = w11.heap.size := by omega
    have n10 : ¬ w9.heap.size = w11.heap.size := by omega
    have k8 : w.heap.size + 1 < w11.heap.size := by omega
    have k10 : w.heap.size + 1 + 1 < w11.heap.size := by omega
    clear l0 l1' l2 l3 l4' hbx
    go_region
    go_wp2_with fail
    have HF := Zd (wr9_facts (.int .i64 g1) (.int .i64 p1) (.bool u1) (.bool k1) (.slice A8 m d8) (.int .i64 0) (.int .i64 0) (.int .i64 0) (.int .i64 v0) HY8.out HY10.out n5)
    unfold wr9 at HF
    generalize (((((((((w11.setCell ⟨w.heap.size + 1, 0, none⟩ (.int .i64 g1)).setCell ⟨w.heap.size + 1, 1, none⟩ (.int .i64 p1)).setCell ⟨w.heap.size + 1, 2, none⟩ (.bool u1)).setCell ⟨w.heap.size + 1, 3, none⟩ (.bool k1)).setCell ⟨w.heap.size + 1, 4, none⟩ (.slice A8 m d8)).setCell ⟨w.heap.size + 1 + 1, 0, none⟩ (.int .i64 0)).setCell ⟨w.heap.size + 1 + 1, 1, none⟩ (.int .i64 0)).setCell ⟨w.heap.size + 1 + 1, 2, none⟩ (.int .i64 0)).setCell ⟨w.heap.size + 1 + 1, 3, none⟩ (.int .i64 v0)) = VV at *
    have HFC := HF.out.c.alloc (.cells #[.int .i64 td.1, .int .i64 td.2.seq, .int .i64 td.2.case_, .int .i64 td.2.code, .int .i64 td.2.value] 233)
    have HFR := HF.out.r.alloc (.cells #[.int .i64 td.1, .int .i64 td.2.seq, .int .i64 td.2.case_, .int .i64 td.2.code, .int .i64 td.2.value] 233)
    have HFT : Blk (VV.alloc (.cells #[.int .i64 td.1, .int .i64 td.2.seq, .int .i64 td.2.case_, .int .i64 td.2.code, .int .i64 td.2.value] 233)) w11.heap.size 233 (Tld.cells td) := blk_new (cs := Tld.cells td) HF.out.size.symm
    have hva := (Below.refl VV.heap.size VV).alloc (Nat.le_refl _) (.cells #[.int .i64 td.1, .int .i64 td.2.seq, .int .i64 td.2.case_, .int .i64 td.2.code, .int .i64 td.2.value] 233)
    generalize VV.alloc (.cells #[.int .i64 td.1, .int .i64 td.2.seq, .int .i64 td.2.case_, .int .i64 td.2.code, .int .i64 td.2.value] 233) = V2 at *
    have hlt8 : w.heap.size + 1 < W0.heap.size := HB1.out.lt
    have hlt10 : w.heap.size + 1 + 1 < W0.heap.size := HB2.out.lt
    have hS := HB3.out.size
    refine bodyPost_ret (v := .tuple #[chnV ⟨g1, p1, u1, k1, A8, d8, lb⟩, .slice A4 (cutS (l.map Wtr.p) (t : Int)).1.length c4, rsV ⟨0, 0, 0, v0⟩, .slice (some ⟨w11.heap.size, 0, none⟩) 1 1])
     (ret_cell4 (g := w.heap.size + 1) (g2 := w.heap.size + 1 + 1) rfl rfl (chn_load (x := ⟨g1, p1, u1, k1, A8, d8, lb⟩) HFC.drew (by simp only [Chn.cells, HDL.out])) rfl rfl (rsl_load (r := ⟨0, 0, 0, v0⟩) HFR.drew) rfl) rfl ?_
    refine ⟨⟨g1, p1, u1, k1, A8, d8, lb⟩, A4, c4, l4, some ⟨w11.heap.size, 0, none⟩, 1, ?_, ?_, ?_, ?_, ?_, ?_, ?_⟩
    . rw [HV.out, HCT.out, HV0.out]; rfl
    . rw [HV.out]; rfl
    . unfold OwnBuf
      simp only [HDL.out]
      exact own_lower (own_below (HF.out.own _ _ _ _ _ _ hlt8 hlt10 HO11.out) hva.drew) hS
    . rw [HM4.out, HCT.out, HV.out]
    . rw [HV.out]
      have h := (HF.out.wts HOW.out (Nat.lt_of_lt_of_le hlt8 HB10.out.size) (Nat.lt_of_lt_of_le hlt10 HB10.out.size)).below hva.drew
      rw [HCT.out] at h
      exact h.lower (Nat.le_trans hS HB10.out.size)
    . rw [HV.out]
      have h := own_blk1 (s := 5) (n := 1) HFT.drew HBX.out.size rfl (by unfold maxLen; omega)
      rw [rows_single]
      exact h
    . have h1 := HF.out.below w.heap.size (by omega) (by omega) HBX.out.size
      exact (HBX.out.trans (h1.trans (hva.mono (by rw [HF.out.size]; exact HBX.out.size)))).drew
theorem cRecv_any (x : Chn) (handle : Int) (A : Option Addr) (n c : Nat) (l : List Wtr) (w : World) (h : WtsAt w A n l) (hx : ChAt w x) (hgo : 0 < x.buf.length ∨ (firstS (l.map Wtr.p) 1 handle).isSome = true) :
  Calls Tryz.prog 225 #[chnV x, .int .i64 handle, .slice A n c] w (RetGot (recvS x.p handle (l.map Wtr.p)) w) := by
 cases hf : firstS (l.map Wtr.p) 1 handle with
 | none =>
   rcases hgo with hgo | hgo
   . exact cRecvNone_any x handle A n c l w h hx hgo hf
   . rw [hf] at hgo; cases hgo
 | some p =>
   obtain ⟨t, i⟩ := p
   exact cRecvSome_any x handle A n c l w h hx t i hf
end Go.Proofs.YtieglgahfeecbaaGreatDoor
