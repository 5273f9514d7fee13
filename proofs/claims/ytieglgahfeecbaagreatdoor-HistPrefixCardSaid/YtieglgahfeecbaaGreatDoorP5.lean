/- Rows of one's own beside others that grow. -/
import Derived.Test.YtieglgahfeecbaaGreatDoorP3
import Derived.Test.YtieglgahfeecbaaGreatDoorP4
set_option maxHeartbeats 64000000
set_option maxRecDepth 100000
namespace Go.Proofs.YtieglgahfeecbaaGreatDoor
open Go.RowKit Go.Sort
attribute [local go_sem ↓] Go.wp_at_zero Go.wp_at_succ
structure OwnClr (base : Nat) (w : World) (x : Clr) : Prop where
 l : w.ownsRow base 3 1 (.slice x.LA x.list.length x.lc) x.list.length (ints x.list)
 d : w.ownsRow base 42 4 (.slice x.DA x.done.length x.dc) x.done.length (rows x.done)
theorem OwnClr.below {base : Nat} {w w' : World} {x : Clr} (h : OwnClr base w x) (hb : Below w.heap.size w w') : OwnClr base w' x := ⟨own_below h.l hb, own_below h.d hb⟩
theorem OwnClr.lower {base b : Nat} {w : World} {x : Clr} (h : OwnClr base w x) (hb : b <= base) : OwnClr b w x := ⟨own_lower h.l hb, own_lower h.d hb⟩
theorem OwnClr.at_ {base : Nat} {w : World} {x : Clr} (h : OwnClr base w x) (hl : x.list.length <= 1048576) (hd : x.done.length <= 4096) : ClrAt w x := ⟨own_rd h.l, own_rd h.d, hl, hd⟩
def Clr.none : Clr := ⟨0, .none, 0, [], .none, 0, []⟩
theorem OwnClr.none (base : Nat) (w : World) : OwnClr base w Clr.none := ⟨own_nil _ _ _ _, own_nil _ _ _ _⟩
def RetClrO (o : Option CellsP) (w : World) (e : Ending) (w' : World) : Prop :=
 ∃ x : Clr, e = .returned (.tuple #[clrV x, .bool o.isSome]) /\ (∀ p, o = some p -> x.p = p) /\ OwnClr w.heap.size w' x /\ Below w.heap.size w w'
theorem clr_load {w : World} {g : Nat} {cs : List Value} {x : Clr} (h : Blk w g 91 cs) (hc : cs = x.cells) : (loadVar 91 ⟨g, 0, none⟩).run Tryz.prog w = .ok (clrV x) w := by
 subst hc
 exact run_loadVar_row (P := Tryz.prog) w g 91 91 _ (0, 0) _ h Tryz.underlying91 rfl (by kernel_rfl)
theorem ret_cellB {fn : Func} {p q : Tmp} {ty : TypeId} (h : fn.results = #[.cell p ty, .tmp q]) {tmps : Array Value} {w : World} {g : Nat} {v a : Value}
  (ht : tmps.getD p undef = .pointer (some ⟨g, 0, none⟩)) (hl : (loadVar ty ⟨g, 0, none⟩).run Tryz.prog w = .ok v w) (hq : tmps.getD q undef = a) :
  (results fn tmps).run Tryz.prog w = .ok (.tuple #[v, a]) w := by
 have ha : ∀ g : Nat, (asAddr (.pointer (some ⟨g, 0, none⟩))).run Tryz.prog w = .ok ⟨g, 0, none⟩ w := fun g => by simp [asAddr, go_sem]
 simp only [Array.getD_eq_getD_getElem?] at ht hq
 simp [results, h, ht, hq, hl, ha]
theorem readC_no1 {c : Cfg} {L : List Int} (h : chkB c = false) : readC c L = .none := by
 unfold readC; rw [if_neg (by rintro ⟨g, _⟩; rw [h] at g; cases g)]
theorem readC_no2 {c : Cfg} {L : List Int} (h : c.kind = 3) : readC c L = .none := by
 unfold readC; rw [if_neg (fun g => g.2.1 h)]
theorem readC_no3 {c : Cfg} {L : List Int} (h : ¬ (L.length : Int) = sizeS c) : readC c L = .none := by
 unfold readC; rw [if_neg (fun g => h g.2.2.1)]
theorem lt_alloc (w : World) (o : Obj) : w.heap.size < (w.alloc o).heap.size := by simp
theorem Blk.only {a w : World} {g k : Nat} {t : TypeId} {cs : List Value} (h : Blk a k t cs) (ho : Only g a w) (hn : k ≠ g) : Blk w k t cs := (ho.block k h.lt hn).trans h
theorem own_put3 {w : World} {base : Nat} {e T : TypeId} {s n g : Nat} {v a b c v0 v1 v2 : Value} {xs : List Value} (h : w.ownsRow base e s v n xs) (hb : Blk w g T [a, b, c]) (hne : e ≠ T) :
  (((w.setCell ⟨g, 0, none⟩ v0).setCell ⟨g, 1, none⟩ v1).setCell ⟨g, 2, none⟩ v2).ownsRow base e s v n xs :=
 own_ty (own_ty (own_ty h hb hne 0 v0) (hb.set_ 0 v0) hne 1 v1) ((hb.set_ 0 v0).set_ 1 v1) hne 2 v2
theorem putC_le (c : Cfg) (x : CellsP) : (putC c x).length <= 1 + c.cap.toNat + x.done.length := by
 unfold putC
 split
 . rw [cellsI_len]; exact Nat.le_refl _
 . exact Nat.zero_le _
theorem box2 (w : World) (t1 t2 : TypeId) (l1 l2 : List Value) : Blk ((w.alloc (.cells l1.toArray t1)).alloc (.cells l2.toArray t2)) w.heap.size t1 l1 /\ Blk ((w.alloc (.cells l1.toArray t1)).alloc (.cells l2.toArray t2)) (w.heap.size + 1) t2 l2 /\ Below w.heap.size w ((w.alloc (.cells l1.toArray t1)).alloc (.cells l2.toArray t2)) :=
 ⟨(Blk.new w t1 l1).alloc _, blk_new (by simp), below_two _ _ _⟩
theorem cfg_blk {w : World} {b : Nat} {c : Cfg} (h : Blk w b 24 (cfgCells c)) : BoxC w b c := ⟨h.lt, fun _ _ hi => h.cell hi⟩
theorem put3 {w : World} {g : Nat} {t : TypeId} {a b c v0 v1 v2 : Value} (h : Blk w g t [a, b, c]) : Blk (((w.setCell ⟨g, 0, none⟩ v0).setCell ⟨g, 1, none⟩ v1).setCell ⟨g, 2, none⟩ v2) g t [v0, v1, v2] := ((h.set_ 0 v0).set_ 1 v1).set_ 2 v2
theorem below3 {B : Nat} {a w : World} {g : Nat} {v0 v1 v2 : Value} (h : Below B a w) (hg : B <= g) : Below B a (((w.setCell ⟨g, 0, none⟩ v0).setCell ⟨g, 1, none⟩ v1).setCell ⟨g, 2, none⟩ v2) :=
 ((h.setCell (p := ⟨g, 0, none⟩) hg v0).setCell (p := ⟨g, 1, none⟩) hg v1).setCell (p := ⟨g, 2, none⟩) hg v2
theorem kReadC_any (c : Cfg) (A : Option Addr) (c0 : Nat) (L : List Int) (w : World) (hc : CfgIn w c) (hR : Rd w A (words L)) (hL : L.length <= c0) (hbig : ∀ x ∈ L, 0 <= x /\ x < 18446744073709551616) :
  Calls Tryz.prog 130 #[cfgV c, .slice A L.length c0] w (RetClrO (readC c L) w) := by
 obtain ⟨b0, b1, hb0⟩ := box2 w 24 91 (cfgCells c) [.int .i64 0, .slice none 0 0, .slice none 0 0]
 have HB0 := Zd b1
 have HBC := Zd (cfg_blk b0)
 have HBX := Zd hb0
 clear b0 b1 hb0
 unfold cfgCells at HB0 HBC HBX
 cases hk : chkB c
 . have HV := Zd (readC_no1 (L := L) hk)
   have HCK := Zd (fun W (hb : Below w.heap.size w W) => Check_no c W (hc.below hb) hk)
   generalize readC c L = R at *
   unfold cfgV at HCK ⊢
   clear hc hk hR hL hbig
   go_enter Tryz.func130, Tryz.ntmps130
   go_wp2_with (first
    | (refine (HCK.out _ HBX.out).mono ?_; rintro er w1 ⟨rfl, hb1⟩; have HB1 := Zd (btr HBX.out hb1); have HY1 := Zd (HB0.out.below hb1 HB0.out.lt); clear hb1; have y0 := HY1.out.cell (i := 0) rfl; have z0 := HY1.out.frozen 0; have y1 := HY1.out.cell (i := 1) rfl; have z1 := HY1.out.frozen 1; have y2 := HY1.out.cell (i := 2) rfl; have z2 := HY1.out.frozen 2))
   refine bodyPost_ret (v := .tuple #[clrV Clr.none, .bool false]) (ret_cellB (g := w.heap.size + 1) rfl rfl (clr_load (x := Clr.none) (put3 HY1.out) rfl) rfl) rfl ?_
   rw [HV.out]
   exact ⟨Clr.none, rfl, fun p hp => (by cases hp), OwnClr.none _ _, below3 HB1.out (by omega)⟩
 . have HCK := Zd (fun W (hb : Below w.heap.size w W) => Check_ok c W (hc.below hb) hk)
   have HSZ := Zd (fun W (hb : Below w.heap.size w W) => Size_any c W (hc.below hb))
   by_cases hk3 : c.kind = 3
   . have HV := Zd (readC_no2 (L := L) hk3)
     have e3 : (c.kind == 3) = true := by simp [hk3]
     generalize readC c L = R at *
     unfold cfgV at HCK ⊢
     clear hc hk hk3 hR hL hbig HSZ
     go_enter Tryz.func130, Tryz.ntmps130
     go_wp2_with (first
      | (refine (HCK.out _ HBX.out).mono ?_; rintro er w1 ⟨rfl, hb1⟩; have HB1 := Zd (btr HBX.out hb1); have HY1 := Zd (HB0.out.below hb1 HB0.out.lt); have HC1 := Zd (HBC.out.below hb1); clear hb1; obtain ⟨f0, f1, f2, f3, f4, f5, f6, f7, f8, f9, f10⟩ := HC1.out.all; have y0 := HY1.out.cell (i := 0) rfl; have z0 := HY1.out.frozen 0; have y1 := HY1.out.cell (i := 1) rfl; have z1 := HY1.out.frozen 1; have y2 := HY1.out.cell (i := 2) rfl; have z2 := HY1.out.frozen 2))
     refine bodyPost_ret (v := .tuple #[clrV Clr.none, .bool false]) (ret_cellB (g := w.heap.size + 1) rfl rfl (clr_load (x := Clr.none) (put3 HY1.out) rfl) rfl) rfl ?_
     rw [HV.out]
     exact ⟨Clr.none, rfl, fun p hp => (by cases hp), OwnClr.none _ _, below3 HB1.out (by omega)⟩
   . by_cases hsz : (L.length : Int) = sizeS c
     . have hb := chk_cap hk
       have e3 : (c.kind == 3) = false := by simp [hk3]
       have e4 : ((L.length : Int) != sizeS c) = false := by simp [hsz]
       have hsz' := hsz
       rw [sizeS_cells hk hk3] at hsz'
       obtain ⟨cn, hcn⟩ : ∃ n : Nat, c.cap = n := ⟨c.cap.toNat, by omega⟩
       obtain ⟨tn, htn⟩ : ∃ n : Nat, c.threads = n := ⟨c.threads.toNat, by omega⟩
       have hcn16 : cn <= 16 := by omega
       have htn64 : tn <= 64 := by omega
       obtain ⟨x0, M, rfl⟩ : ∃ x M, L = x :: M := by
        match L, hsz' with
        | x :: M, _ => exact ⟨x, M, rfl⟩
        | [], h => simp at h; omega
       have hM : M.length = cn + tn := by simp at hsz'; omega
       have HX : Hid (cellsR c (x0 :: M) = ⟨c.cap, rowR (min x0 17) cn M, resR tn (M.drop cn)⟩) := Zd (by
        unfold cellsR
        rw [hcn, htn, show ((1 : Nat) + ((cn : Int)).toNat) = cn + 1 by omega]
        simp)
       have HV : Hid (readC c (x0 :: M) = if putC c (cellsR c (x0 :: M)) = x0 :: M then some (cellsR c (x0 :: M)) else .none) := Zd (by
        unfold readC
        by_cases h : putC c (cellsR c (x0 :: M)) = x0 :: M
        . rw [if_pos ⟨hk, hk3, hsz, h⟩, if_pos h]
        . rw [if_neg (fun g => h g.2.2.2), if_neg h])
       obtain ⟨b, o, rfl, hbl, hcell⟩ := hR.at_ (by simp [words])
       have h00 := hbig x0 (List.mem_cons_self ..)
       have HRD := Zd (fun (W : World) (hW : Below w.heap.size w W) => (show RdrAt (W.alloc (.cells #[.slice (some ⟨b, o, none⟩) (x0 :: M).length c0] 172)) W.heap.size b (x0 :: M) from
        ⟨⟨o, c0, Blk.new W 172 [_], hL, fun k hk => by
         rw [World.cell?_alloc_lt _ _ _ (show b < W.heap.size by have := hW.size; omega), hW.cell (p := ⟨b, o + k, none⟩) hbl]
         exact hcell k _ (words_at hk)⟩, by have := hW.size; omega, by have := hW.size; simp; omega, hbig⟩))
       have HBG := Zd hbig
       have HCF := Zd hc
       generalize cellsR c (x0 :: M) = CR at HX HV
       obtain ⟨cc, XL, XD⟩ := CR
       have HXE := HX.out
       simp only [CellsP.mk.injEq] at HXE
       have HXL := Zd HXE.2.1
       have HXD := Zd HXE.2.2
       obtain rfl := HXE.1
       clear HXE HX
       have HRW0 := Zd (fun W (hW : Below w.heap.size w W) => hR.below hW)
       have HM := Zd hM
       have HCN := Zd hcn
       have HTN := Zd htn
       have HX0 := Zd h00
       have HBL := Zd hbl
       clear hbig hcell hR hk hk3 hsz hsz' hc hb hM hcn htn h00 hbl
       generalize hll : (x0 :: M).length = n at *
       have HLL := Zd hll
       clear hll
       generalize sizeS c = sz at *
       generalize readC c (x0 :: M) = R at *
       unfold cfgV at HCK HSZ ⊢
       go_enter Tryz.func130, Tryz.ntmps130
       go_wp2_with (first
        | (refine (HCK.out _ HBX.out).mono ?_; rintro er w1 ⟨rfl, hb1⟩; have HB1 := Zd (btr HBX.out hb1); have HY1 := Zd (HB0.out.below hb1 HB0.out.lt); have HC1 := Zd (HBC.out.below hb1); clear hb1; obtain ⟨f0, f1, f2, f3, f4, f5, f6, f7, f8, f9, f10⟩ := HC1.out.all)
        | (refine (HSZ.out _ HB1.out).mono ?_; rintro er w2 ⟨rfl, hb2⟩; have HB2 := Zd (btr HB1.out hb2); have HY2 := Zd (HY1.out.below hb2 HY1.out.lt); have HC2 := Zd (HC1.out.below hb2); clear hb2 f0 f1 f2 f3 f4 f5 f6 f7 f8 f9 f10; have hg2 : w.heap.size + 1 < w2.heap.size := HY2.out.lt)
        | (go_at_call 134; refine (rdr_next w2.heap.size b x0 M _ (HRD.out w2 HB2.out)).mono ?_; rintro er w3 ⟨rfl, hr3, ho3⟩; have HR3 := Zd hr3; have HO3 := Zd ho3; clear hr3 ho3; obtain ⟨x00, x01⟩ := HX0.out))
       all_goals
        have HZL : Hid (∀ z, (z = x0 /\ x0 <= 17 ∨ z = 17 /\ 17 < x0) -> rowR z cn M = XL) := Zd (fun z hz => by
         rw [HXL.out]
         rcases hz with ⟨rfl, h⟩ | ⟨rfl, h⟩
         . rw [show min z 17 = z by omega]
         . rw [show min x0 17 = 17 by omega])
        have HXDL : Hid (XD.length = tn) := Zd (by rw [HXD.out, resR_len])
        go_cut [8] (fun s8 wx => ∃ (g : Nat) (A1 : Option Addr) (c1 : Nat) (A2 : Option Addr) (c2 : Nat), s8 = .pointer (some ⟨g, 0, none⟩) /\ w2.heap.size < g /\
         Blk wx g 91 (Clr.cells ⟨(cn : Int), A1, c1, XL, A2, c2, XD⟩) /\ OwnClr w2.heap.size wx ⟨(cn : Int), A1, c1, XL, A2, c2, XD⟩ /\ Below w2.heap.size w2 wx)
        case first =>
         have HB3 := Zd (show Below w2.heap.size w2 w3 from ((Below.refl _ _).alloc (Nat.le_refl _) _).trans (HO3.out.below (Nat.le_refl _) (by simp)))
         have HS3 := Zd (show w2.heap.size < w3.heap.size from HR3.out.gl)
         have HRW := Zd (fun W m (hW : RdrAt W w2.heap.size b M) => rdr_row w2.heap.size b M m cn W hW (by have := HM.out; omega) (by omega))
         have HRE := Zd (fun W (hW : RdrAt W w2.heap.size b (M.drop cn)) => rdr_results w2.heap.size b (M.drop cn) tn W hW (by rw [List.length_drop]; have := HM.out; omega) (by omega))
         obtain ⟨f0, f1, f2, f3, f4, f5, f6, f7, f8, f9, f10⟩ := (HC2.out.below HB3.out).all
         have hg0 : w.heap.size < w2.heap.size := by omega
         rw [HTN.out] at f1
         rw [HCN.out] at f3
         clear f0 f2 f4 f5 f6 f7 f8 f9 f10
         obtain ⟨p0, p1, p2, p3, _⟩ := HC2.out.all
         rw [HTN.out] at p1
         rw [HCN.out] at p3
         clear p0 p2
         have HR3' := Zd (fun ob => HR3.out.below (below1 w3 ob))
         have HR3d := Zd (HR3.out.below (Below.drewN' (Below.refl w3.heap.size w3) 1))
         have HB3' := Zd (fun ob => HB3.out.trans ((below1 w3 ob).mono HB3.out.size))
         have HB3d := Zd (Below.drewN' HB3.out 1)
         have hn3 := Nat.ne_of_lt (Nat.lt_trans hg0 HS3.out)
         have hm3 := hn3.symm
         have HLX := Zd (fun ob => (show w3.heap.size < ((w3.alloc ob).drew).heap.size by simp))
         have HNE : Hid (w3.heap.size ≠ w2.heap.size) := Zd (by have := HS3.out; omega)
         go_region_held3 (fun w' => w'.cell? ⟨w.heap.size, 3, none⟩ = some (.int .i64 cn) /\ w'.cell? ⟨w.heap.size, 1, none⟩ = some (.int .i64 tn)) (first | go_keep | (simp only [hk1]; go_keep)) (first
          | (go_at_call 162; refine (HRW.out _ _ ?_).mono ?_; (first | exact HR3'.out _ | exact HR3d.out); rintro er w4 ⟨A1, c1, rfl, how4, hr4, ho4⟩; have hB4 : Below w2.heap.size w2 w4 := (by first | exact (HB3d.out).trans (ho4.below (Nat.le_refl _) HB3d.out.size) | exact (HB3'.out _).trans (ho4.below (Nat.le_refl _) (HB3'.out _).size)); have hk1 := fun o => hB4.cell (p := ⟨w.heap.size, o, none⟩) hg0; have hn4 := Nat.ne_of_lt (Nat.lt_of_lt_of_le hg0 hB4.size); have hm4 := hn4.symm; (try (have hY4 := Blk.only (Blk.drew (Blk.new w3 91 [.int .i64 0, .slice none 0 0, .slice none 0 0])) ho4 HNE.out)))
          | (go_at_call 137; refine (HRE.out _ ?_).mono ?_; (first | exact hr4 | exact hr4.below ((Below.refl _ _).alloc (Nat.le_refl _) _)); rintro er w5 ⟨A2, c2, rfl, how5, hr5, ho5⟩; have hB5 : Below w2.heap.size w2 w5 := (by first | exact hB4.trans (ho5.below (Nat.le_refl _) hB4.size) | exact (hB4.alloc hB4.size _).trans (ho5.below (Nat.le_refl _) (hB4.alloc hB4.size _).size)); clear hk1; have hk1 := fun o => hB5.cell (p := ⟨w.heap.size, o, none⟩) hg0; (try (have hY5 := Blk.only (Blk.new w4 91 [.int .i64 0, .slice none 0 0, .slice none 0 0]) ho5 (Nat.ne_of_gt hr4.gl))); (try (have hY5 := Blk.only hY4 ho5 HNE.out)); (try (have y0 := hY5.cell (i := 0) rfl; have z0 := hY5.frozen 0; have y1 := hY5.cell (i := 1) rfl; have z1 := hY5.frozen 1; have y2 := hY5.cell (i := 2) rfl; have z2 := hY5.frozen 2))))
         all_goals (clear hk1; go_step; go_step)
         all_goals
          have e1 := HZL.out _ (by first | exact .inl ⟨rfl, by assumption⟩ | exact .inr ⟨rfl, by assumption⟩)
          simp only [e1] at how4 ⊢
          have hl5 : w5.ownsRow w2.heap.size 3 1 (.slice A1 XL.length c1) XL.length (ints XL) := by
           first
            | exact own_lower (own_Only how4 ho5 HS3.out) (Nat.le_of_lt HS3.out)
            | exact own_lower (own_Only (own_below how4 ((Below.refl _ _).alloc (Nat.le_refl _) _)) ho5 HS3.out) (Nat.le_of_lt HS3.out)
            | exact own_lower (own_Only how4 ho5 (Nat.lt_trans HS3.out (HLX.out _))) (Nat.le_of_lt (Nat.lt_trans HS3.out (HLX.out _)))
          have hd5 : w5.ownsRow w2.heap.size 42 4 (.slice A2 XD.length c2) XD.length (rows XD) := by
           rw [HXDL.out, HXD.out]
           first
            | exact own_lower how5 (Nat.le_of_lt hr4.gl)
            | exact own_lower how5 (Nat.le_of_lt (Nat.lt_trans hr4.gl (lt_alloc _ _)))
          have hs5 := hr5.gl
          rw [<- HXDL.out]
          go_meet
          first
           | exact ⟨_, A1, c1, A2, c2, rfl, HS3.out, put3 hY5, ⟨own_put3 hl5 hY5 (by decide), own_put3 hd5 hY5 (by decide)⟩, below3 hB5 (Nat.le_of_lt HS3.out)⟩
           | exact ⟨_, A1, c1, A2, c2, rfl, hr4.gl, put3 hY5, ⟨own_put3 hl5 hY5 (by decide), own_put3 hd5 hY5 (by decide)⟩, below3 hB5 (Nat.le_of_lt hr4.gl)⟩
           | exact ⟨_, A1, c1, A2, c2, rfl, hs5, Blk.new w5 91 [.int .i64 cn, .slice A1 XL.length c1, .slice A2 XD.length c2], ⟨own_below hl5 ((Below.refl _ _).alloc (Nat.le_refl _) _), own_below hd5 ((Below.refl _ _).alloc (Nat.le_refl _) _)⟩, hB5.alloc hB5.size _⟩
        case rest =>
         obtain ⟨g, A1, c1, A2, c2, rfl, hg, hbk, hown, hb⟩ := hcut
         have HB := Zd (btr HB2.out hb)
         have HCX := Zd (HC2.out.below hb)
         have HYX := Zd (HY2.out.below hb HY2.out.lt)
         have hXL : XL.length <= 16 := by rw [HXL.out]; exact Nat.le_trans (rowR_len _ _ _) hcn16
         have hXD : XD.length <= 64 := by rw [HXDL.out]; exact htn64
         have HPT := Zd (kPutC_any c ⟨(cn : Int), A1, c1, XL, A2, c2, XD⟩ wc (HCF.out.below HB.out) (hown.at_ (Nat.le_trans hXL (by decide)) (Nat.le_trans hXD (by decide))))
         have HBK := Zd hbk
         have HOW := Zd (hown.lower HB2.out.size)
         obtain ⟨x0', hx0'⟩ : ∃ P, P = putC c (Clr.p ⟨(cn : Int), A1, c1, XL, A2, c2, XD⟩) := ⟨_, rfl⟩
         rw [<- hx0'] at HPT
         have HPL : Hid (x0'.length <= maxLen) := Zd (by
          have h1 := putC_le c (Clr.p ⟨(cn : Int), A1, c1, XL, A2, c2, XD⟩)
          rw [<- hx0', HCN.out] at h1
          have h2 : (Clr.p ⟨(cn : Int), A1, c1, XL, A2, c2, XD⟩).done.length = XD.length := rfl
          unfold maxLen; omega)
         have hPX : putC c ⟨c.cap, XL, XD⟩ = x0' := by rw [hx0', HCN.out]; rfl
         rw [hPX] at HV
         have hn81 : n <= 81 := by have h1 := HM.out; have h2 := HLL.out; simp at h2; omega
         have HEQ := Zd (fun W A6 c6 (hA : Rd W A6 (words x0')) (hw : Below w.heap.size w W) (hl : x0'.length <= maxLen) => WordsEq_any A6 (some ⟨b, o, none⟩) c6 c0 x0' (x0 :: M) W hl (by rw [HLL.out]; unfold maxLen; omega) hA (HRW0.out W hw))
         obtain ⟨f0, f1, f2, f3, f4, f5, f6, f7, f8, f9, f10⟩ := HCX.out.all
         have y0 := HBK.out.cell (i := 0) rfl
         have y1 := HBK.out.cell (i := 1) rfl
         have y2 := HBK.out.cell (i := 2) rfl
         clear hbk hown hb hPX hx0' HCX
         rw [HLL.out] at HEQ
         unfold clrV cfgV at HPT
         simp only at HPT y0 y1 y2
         by_cases hp : x0' = x0 :: M
         . have HQ : Hid ((x0' == x0 :: M) = true) := Zd (by simp [hp])
           rw [if_pos hp] at HV
           rw [HQ.out] at HEQ
           clear hp HQ
           go_wp2_with (first
            | (refine HPT.out.mono ?_; rintro er w6 ⟨A6, c6, rfl, how6, hb6⟩; have HR6 := Zd (own_rd how6); have HB6 := Zd (btr HB.out hb6); have HW6 := Zd hb6; clear how6 hb6)
            | (refine (HEQ.out _ _ _ HR6.out HB6.out HPL.out).mono ?_; rintro er w7 ⟨rfl, hb7⟩; have HW7 := Zd (btr HW6.out hb7); clear hb7; have HBK7 := Zd (HBK.out.below HW7.out HBK.out.lt); have HY7 := Zd (HYX.out.below HW7.out HYX.out.lt); clear y0 y1 y2 f0 f1 f2 f3 f4 f5 f6 f7 f8 f9 f10; have y0 := HBK7.out.cell (i := 0) rfl; have y1 := HBK7.out.cell (i := 1) rfl; have y2 := HBK7.out.cell (i := 2) rfl; have t0 := HY7.out.cell (i := 0) rfl; have z0 := HY7.out.frozen 0; have t1 := HY7.out.cell (i := 1) rfl; have z1 := HY7.out.frozen 1; have t2 := HY7.out.cell (i := 2) rfl; have z2 := HY7.out.frozen 2))
           refine bodyPost_ret (v := .tuple #[clrV ⟨(cn : Int), A1, c1, XL, A2, c2, XD⟩, .bool true]) (ret_cellB (g := w.heap.size + 1) rfl rfl (clr_load (x := ⟨(cn : Int), A1, c1, XL, A2, c2, XD⟩) (put3 HY7.out) rfl) rfl) rfl ?_
           rw [HV.out]
           refine ⟨⟨(cn : Int), A1, c1, XL, A2, c2, XD⟩, rfl, fun p hp => ?_, ⟨own_put3 (own_below HOW.out.l HW7.out) HY7.out (by decide), own_put3 (own_below HOW.out.d HW7.out) HY7.out (by decide)⟩, below3 (HB.out.trans (HW7.out.mono HB.out.size)) (by omega)⟩
           simp only [Option.some.injEq] at hp
           rw [<- hp, HCN.out]
           rfl
         . have HQ : Hid ((x0' == x0 :: M) = false) := Zd (by simpa using hp)
           rw [if_neg hp] at HV
           rw [HQ.out] at HEQ
           clear hp HQ
           go_wp2_with (first
            | (refine HPT.out.mono ?_; rintro er w6 ⟨A6, c6, rfl, how6, hb6⟩; have HR6 := Zd (own_rd how6); have HB6 := Zd (btr HB.out hb6); have HW6 := Zd hb6; clear how6 hb6)
            | (refine (HEQ.out _ _ _ HR6.out HB6.out HPL.out).mono ?_; rintro er w7 ⟨rfl, hb7⟩; have HW7 := Zd (btr HW6.out hb7); clear hb7; have HBK7 := Zd (HBK.out.below HW7.out HBK.out.lt); have HY7 := Zd (HYX.out.below HW7.out HYX.out.lt); clear y0 y1 y2 f0 f1 f2 f3 f4 f5 f6 f7 f8 f9 f10; have y0 := HBK7.out.cell (i := 0) rfl; have y1 := HBK7.out.cell (i := 1) rfl; have y2 := HBK7.out.cell (i := 2) rfl; have t0 := HY7.out.cell (i := 0) rfl; have z0 := HY7.out.frozen 0; have t1 := HY7.out.cell (i := 1) rfl; have z1 := HY7.out.frozen 1; have t2 := HY7.out.cell (i := 2) rfl; have z2 := HY7.out.frozen 2))
           refine bodyPost_ret (v := .tuple #[clrV Clr.none, .bool false]) (ret_cellB (g := w.heap.size + 1) rfl rfl (clr_load (x := Clr.none) (put3 HY7.out) rfl) rfl) rfl ?_
           rw [HV.out]
           exact ⟨Clr.none, rfl, fun p hp => (by cases hp), OwnClr.none _ _, below3 (HB.out.trans (HW7.out.mono HB.out.size)) (by omega)⟩
     . have HV := Zd (readC_no3 (L := L) hsz)
       have e3 : (c.kind == 3) = false := by simp [hk3]
       have e4 : ((L.length : Int) != sizeS c) = true := by simp [hsz]
       generalize readC c L = R at *
       generalize sizeS c = sz at *
       unfold cfgV at HCK HSZ ⊢
       clear hc hk hk3 hR hL hbig hsz
       generalize L.length = n at *
       go_enter Tryz.func130, Tryz.ntmps130
       go_wp2_with (first
        | (refine (HCK.out _ HBX.out).mono ?_; rintro er w1 ⟨rfl, hb1⟩; have HB1 := Zd (btr HBX.out hb1); have HY1 := Zd (HB0.out.below hb1 HB0.out.lt); have HC1 := Zd (HBC.out.below hb1); clear hb1; obtain ⟨f0, f1, f2, f3, f4, f5, f6, f7, f8, f9, f10⟩ := HC1.out.all; have y0 := HY1.out.cell (i := 0) rfl; have z0 := HY1.out.frozen 0; have y1 := HY1.out.cell (i := 1) rfl; have z1 := HY1.out.frozen 1; have y2 := HY1.out.cell (i := 2) rfl; have z2 := HY1.out.frozen 2)
        | (refine (HSZ.out _ HB1.out).mono ?_; rintro er w2 ⟨rfl, hb2⟩; have HB2 := Zd (btr HB1.out hb2); have HY2 := Zd (HY1.out.below hb2 HY1.out.lt); have HC2 := Zd (HC1.out.below hb2); clear hb2 y0 y1 y2 z0 z1 z2 f0 f1 f2 f3 f4 f5 f6 f7 f8 f9 f10; obtain ⟨f0, f1, f2, f3, f4, f5, f6, f7, f8, f9, f10⟩ := HC2.out.all; have y0 := HY2.out.cell (i := 0) rfl; have z0 := HY2.out.frozen 0; have y1 := HY2.out.cell (i := 1) rfl; have z1 := HY2.out.frozen 1; have y2 := HY2.out.cell (i := 2) rfl; have z2 := HY2.out.frozen 2))
       refine bodyPost_ret (v := .tuple #[clrV Clr.none, .bool false]) (ret_cellB (g := w.heap.size + 1) rfl rfl (clr_load (x := Clr.none) (put3 HY2.out) rfl) rfl) rfl ?_
       rw [HV.out]
       exact ⟨Clr.none, rfl, fun p hp => (by cases hp), OwnClr.none _ _, below3 HB2.out (by omega)⟩
def RetClr (p : CellsP) (w : World) (e : Ending) (w' : World) : Prop := ∃ y : Clr, e = .returned (clrV y) /\ y.p = p /\ OwnClr w.heap.size w' y /\ Below w.heap.size w w'
theorem fcopied_any (x : Clr) (w : World) (hx : ClrAt w x) : Calls Tryz.prog 165 #[clrV x] w (RetClr x.p w) := by
 obtain ⟨b0, b1, hb0⟩ := box2 w 91 91 (Clr.cells x) [.int .i64 0, .slice none 0 0, .slice none 0 0]
 have hfl := hx.fl
 have hfd := hx.fd
 have HCI := Zd (fun W (hb : Below w.heap.size w W) => CloneI_any x.LA x.list.length x.lc (ints x.list) W (by omega) (by rw [ints_length]; omega) (ints_one _) (hx.rl.below hb))
 have HCR := Zd (fun W (hb : Below w.heap.size w W) => CloneRs_any x.DA x.done.length x.dc (rows x.done) W (by omega) (by rw [rows_length]; rfl) (rows_one _) (hx.rd.below hb))
 clear hx
 obtain ⟨cap, LA, lc, li, DA, dc, dn⟩ := x
 simp only [Clr.cells] at b0 b1 hb0 HCI HCR hfl hfd
 unfold clrV
 simp only
 have HY0 := Zd b0
 have HY1 := Zd b1
 have HBX := Zd hb0
 clear b0 b1 hb0
 generalize hll : li.length = ll at *
 generalize hdl : dn.length = dl at *
 have HLL := Zd hll
 have HDL := Zd hdl
 clear hll hdl
 go_enter Tryz.func165, Tryz.ntmps165
 go_wp2_with fail
 generalize (w.alloc (.cells #[.int .i64 cap, .slice LA ll lc, .slice DA dl dc] 91)).alloc (.cells #[.int .i64 0, .slice none 0 0, .slice none 0 0] 91) = W0 at *
 obtain ⟨y0, y1, y2⟩ : W0.cell? ⟨w.heap.size, 0, none⟩ = some (.int .i64 cap) /\ W0.cell? ⟨w.heap.size, 1, none⟩ = some (.slice LA ll lc) /\ W0.cell? ⟨w.heap.size, 2, none⟩ = some (.slice DA dl dc) := ⟨HY0.out.cell rfl, HY0.out.cell rfl, HY0.out.cell rfl⟩
 have hz := HY0.out.frozen
 have hg0 : w.heap.size < W0.heap.size := HY0.out.lt
 go_region_with (first
  | (refine (HCI.out _ (by first | exact HBX.out | exact Below.drewN' HBX.out 1)).mono ?_; rintro er w1 ⟨A1, c1, rfl, ho1, hb1⟩; have hB1 : Below W0.heap.size W0 w1 := ⟨hb1.os, hb1.tape, hb1.output, hb1.size, hb1.block⟩; have hk1 := fun o => hB1.cell (p := ⟨w.heap.size, o, none⟩) hg0; have hf1 := fun o => hB1.frozen (p := ⟨w.heap.size, o, none⟩) hg0)
  | (refine (HCR.out _ ?_).mono ?_; (first | exact HBX.out.trans (hB1.mono HBX.out.size) | exact (btr HBX.out hB1).setCell (p := ⟨w.heap.size, 1, none⟩) (Nat.le_refl _) _); rintro er w2 ⟨A2, c2, rfl, ho2, hb2⟩; have hB2 : Below w.heap.size W0 w2 := (by first | exact (hB1.mono (Nat.le_of_lt hg0)).trans (hb2.mono (Nat.le_trans (Nat.le_of_lt hg0) hB1.size)) | exact ((hB1.mono (Nat.le_of_lt hg0)).setCell (p := ⟨w.heap.size, 1, none⟩) (Nat.le_refl _) _).trans (hb2.mono ?_)); have hk2 := fun o => hb2.cell (p := ⟨w.heap.size, o, none⟩) (Nat.lt_of_lt_of_le hg0 hB1.size); have hf2 := fun o => hb2.frozen (p := ⟨w.heap.size, o, none⟩) (Nat.lt_of_lt_of_le hg0 hB1.size)))
 all_goals
  have HB2 : Hid (Below W0.heap.size W0 w2) := Zd (hB1.trans (hb2.mono hB1.size))
  have HO1 : Hid (w2.ownsRow W0.heap.size 3 1 (.slice A1 ll c1) ll (ints li)) := Zd (own_below ho1 hb2)
  have HO2 : Hid (w2.ownsRow W0.heap.size 42 4 (.slice A2 dl c2) dl (rows dn)) := Zd (own_lower ho2 hB1.size)
  have HG := Zd (((HY0.out.below HB2.out hg0).set_ 1 (.slice A1 ll c1)).set_ 2 (.slice A2 dl c2))
  have HH := Zd (((HY1.out.below HB2.out HY1.out.lt).other (g' := w.heap.size) (by omega) 1 (.slice A1 ll c1)).other (g' := w.heap.size) (by omega) 2 (.slice A2 dl c2))
  have HB3 := Zd (((HBX.out.trans (HB2.out.mono HBX.out.size)).setCell (p := ⟨w.heap.size, 1, none⟩) (Nat.le_refl _) (.slice A1 ll c1)).setCell (p := ⟨w.heap.size, 2, none⟩) (Nat.le_refl _) (.slice A2 dl c2))
  have HP1 := Zd (own_low (own_low HO1.out hg0 1 (.slice A1 ll c1)) hg0 2 (.slice A2 dl c2))
  have HP2 := Zd (own_low (own_low HO2.out hg0 1 (.slice A1 ll c1)) hg0 2 (.slice A2 dl c2))
  have hg1 : w.heap.size + 1 < W0.heap.size := HY1.out.lt
  clear hb1 hb2 ho1 ho2 hB1 hk1 hf1 hk2 hf2 hB2 y0 y1 y2 hz
  generalize (w2.setCell ⟨w.heap.size, 1, none⟩ (.slice A1 ll c1)).setCell ⟨w.heap.size, 2, none⟩ (.slice A2 dl c2) = V at *
  have y0 := HG.out.cell (i := 0) rfl
  have y1 := HG.out.cell (i := 1) rfl
  have y2 := HG.out.cell (i := 2) rfl
  have t0 := HH.out.cell (i := 0) rfl
  have z0 := HH.out.frozen 0
  have t1 := HH.out.cell (i := 1) rfl
  have z1 := HH.out.frozen 1
  have t2 := HH.out.cell (i := 2) rfl
  have z2 := HH.out.frozen 2
  go_wp2
  have e1 : li.length = ll := HLL.out
  have e2 : dn.length = dl := HDL.out
  refine bodyPost_ret (v := clrV ⟨cap, A1, c1, li, A2, c2, dn⟩) (ret_cell (g := w.heap.size + 1) rfl rfl (clr_load (x := ⟨cap, A1, c1, li, A2, c2, dn⟩) (put3 HH.out) (by simp only [Clr.cells, e1, e2]))) rfl ?_
  refine ⟨⟨cap, A1, c1, li, A2, c2, dn⟩, rfl, rfl, ⟨?_, ?_⟩, below3 HB3.out (by omega)⟩
  . simp only [e1]; exact own_lower (own_low (own_low (own_low HP1.out hg1 _ _) hg1 _ _) hg1 _ _) (by omega)
  . simp only [e2]; exact own_lower (own_low (own_low (own_low HP2.out hg1 _ _) hg1 _ _) hg1 _ _) (by omega)
theorem rsr_setAll {l : List Resr} {k : Nat} (hk : k < l.length) (y : Resr) :
  ((((rows l).set (k * 4) (.int .i64 y.seq)).set (k * 4 + 1) (.int .i64 y.case_)).set (k * 4 + 2) (.int .i64 y.code)).set (k * 4 + 3) (.int .i64 y.value) = rows (l.set k y) := by
 have e0 := rows_set (l := l) (k := k) hk 0 (.int .i64 y.seq) ⟨y.seq, (l.getD k Resr.none).case_, (l.getD k Resr.none).code, (l.getD k Resr.none).value⟩ (by decide) rfl
 have e0' : (rows l).set (k * 4) (.int .i64 y.seq) = _ := e0
 rw [e0']
 have h1 := rows_set (l := l.set k ⟨y.seq, (l.getD k Resr.none).case_, (l.getD k Resr.none).code, (l.getD k Resr.none).value⟩) (k := k) (by simpa using hk) 1 (.int .i64 y.case_)
  ⟨y.seq, y.case_, (l.getD k Resr.none).code, (l.getD k Resr.none).value⟩ (by decide) (by show _ = List.set (Resr.cells (List.getD _ k Resr.none)) _ _; rw [getD_set_eq hk]; rfl)
 have h1' : (rows _).set (k * 4 + 1) (.int .i64 y.case_) = _ := h1
 rw [h1', List.set_set]
 have h2 := rows_set (l := l.set k ⟨y.seq, y.case_, (l.getD k Resr.none).code, (l.getD k Resr.none).value⟩) (k := k) (by simpa using hk) 2 (.int .i64 y.code)
  ⟨y.seq, y.case_, y.code, (l.getD k Resr.none).value⟩ (by decide) (by show _ = List.set (Resr.cells (List.getD _ k Resr.none)) _ _; rw [getD_set_eq hk]; rfl)
 have h2' : (rows _).set (k * 4 + 2) (.int .i64 y.code) = _ := h2
 rw [h2', List.set_set]
 have h3 := rows_set (l := l.set k ⟨y.seq, y.case_, y.code, (l.getD k Resr.none).value⟩) (k := k) (by simpa using hk) 3 (.int .i64 y.value)
  y (by decide) (by show _ = List.set (Resr.cells (List.getD _ k Resr.none)) _ _; rw [getD_set_eq hk]; rfl)
 have h3' : (rows _).set (k * 4 + 3) (.int .i64 y.value) = _ := h3
 rw [h3', List.set_set]
theorem own_rsr {base : Nat} {w : World} {g n c : Nat} {l : List Resr} (h : w.ownsRow base 42 4 (.slice (some ⟨g, 0, none⟩) n c) n (rows l)) (hl : l.length = n) {k : Nat} (hk : k < n) (y : Resr) :
  ((((w.setCell ⟨g, k * 4, none⟩ (.int .i64 y.seq)).setCell ⟨g, k * 4 + 1, none⟩ (.int .i64 y.case_)).setCell ⟨g, k * 4 + 2, none⟩ (.int .i64 y.code)).setCell ⟨g, k * 4 + 3, none⟩ (.int .i64 y.value)).ownsRow base 42 4 (.slice (some ⟨g, 0, none⟩) n c) n (rows (l.set k y)) := by
 have hn : 0 < n := by omega
 have a0 := own_put h hn (k * 4) (.int .i64 y.seq) (by omega) rfl
 have a1 := own_put a0 hn (k * 4 + 1) (.int .i64 y.case_) (by omega) rfl
 have a2 := own_put a1 hn (k * 4 + 2) (.int .i64 y.code) (by omega) rfl
 exact own_put a2 hn (k * 4 + 3) (.int .i64 y.value) (by omega) (rsr_setAll (l := l) (k := k) (by omega) y)
theorem own_ty4 {w : World} {base b2 : Nat} {e e' : TypeId} {s s' n m g c : Nat} {v v0 v1 v2 v3 : Value} {xs ys : List Value} {i0 i1 i2 i3 : Nat} (h : w.ownsRow base e s v n xs) (hg : w.ownsRow b2 e' s' (.slice (some ⟨g, 0, none⟩) m c) m ys) (hne : e ≠ e') :
  ((((w.setCell ⟨g, i0, none⟩ v0).setCell ⟨g, i1, none⟩ v1).setCell ⟨g, i2, none⟩ v2).setCell ⟨g, i3, none⟩ v3).ownsRow base e s v n xs := by
 obtain ⟨cur, hh⟩ := own_blk hg
 have step : ∀ (W : World) (cu : Array Value) (i : Nat) (u : Value), W.heap[g]? = some (.cells cu e' (0, 0)) -> (W.setCell ⟨g, i, none⟩ u).heap[g]? = some (.cells (cu.setIfInBounds i u) e' (0, 0)) := fun W cu i u hW => by
  simp [World.setCell, Array.getElem?_modify, hW]
 have b1 := step w cur i0 v0 hh
 have b2 := step _ _ i1 v1 b1
 have b3 := step _ _ i2 v2 b2
 exact own_ty (own_ty (own_ty (own_ty h hh hne _ _) b1 hne _ _) b2 hne _ _) b3 hne _ _
theorem ftold_any (base : Nat) (x : Clr) (t seq code value : Int) (w : World) (hb : base <= w.heap.size) (hx : OwnClr base w x) (hd : x.done.length <= 4096) :
  Calls Tryz.prog 166 #[clrV x, .int .i64 t, .int .i64 seq, .int .i64 code, .int .i64 value] w fun e w' =>
   e = .returned (clrV ⟨x.cap, x.LA, x.lc, x.list, x.DA, x.dc, setR x.done t ⟨seq, 0, code, value⟩⟩) /\ OwnClr base w' ⟨x.cap, x.LA, x.lc, x.list, x.DA, x.dc, setR x.done t ⟨seq, 0, code, value⟩⟩ /\ Below base w w' := by
 obtain ⟨b0, b1, hb0⟩ := box2 w 91 91 (Clr.cells x) [.int .i64 0, .slice none 0 0, .slice none 0 0]
 obtain ⟨cap, LA, lc, li, DA, dc, dn⟩ := x
 simp only [Clr.cells] at b0 b1 hb0 hd
 have HY0 := Zd b0
 have HY1 := Zd b1
 have HBX := Zd hb0
 have HOL := Zd hx.l
 have HOD := Zd hx.d
 have HSZ := Zd hb
 clear b0 b1 hb0 hx hb
 unfold clrV
 simp only at HOL HOD ⊢
 generalize hll : li.length = ll at *
 have HDL : Hid ((setR dn t ⟨seq, 0, code, value⟩).length = dn.length) := Zd (by unfold setR; split <;> simp)
 by_cases hin : inL dn.length t
 . have HR : Hid (setR dn t ⟨seq, 0, code, value⟩ = dn.set t.toNat ⟨seq, 0, code, value⟩) := Zd (by unfold setR; rw [if_pos hin])
   obtain ⟨k, rfl⟩ : ∃ k : Nat, t = k := ⟨t.toNat, by unfold inL at hin; omega⟩
   rw [Int.toNat_natCast] at HR
   have hk : k < dn.length := by unfold inL at hin; omega
   obtain ⟨g, hA, hg1, hg2⟩ := own_some HOD.out (by omega)
   subst hA
   have HK := Zd hk
   have k0 : (0 : Int) <= (k : Int) := by omega
   have k1 : (k : Int) < (dn.length : Int) := by omega
   have HO0 := Zd (own_below HOD.out HBX.out)
   obtain ⟨e0, e1, e2, e3⟩ := rsr_cells (k := k) (x := dn.getD k Resr.none) (own_cellAt HO0.out) hk rfl
   simp only [Nat.zero_add] at e0 e1 e2 e3
   have z0 := own_free HO0.out (k * 4)
   have z1 := own_free HO0.out (k * 4 + 1)
   have z2 := own_free HO0.out (k * 4 + 2)
   have z3 := own_free HO0.out (k * 4 + 3)
   have n0 : w.heap.size ≠ g := by omega
   have n0' := n0.symm
   have n1 : w.heap.size + 1 ≠ g := by omega
   have n1' := n1.symm
   have HN0 := Zd (show w.heap.size ≠ g by omega)
   have HN1 := Zd (show w.heap.size + 1 ≠ g by omega)
   have HPD := Zd (own_rsr HO0.out rfl hk ⟨seq, 0, code, value⟩)
   have HPL := Zd (own_ty4 (i0 := k * 4) (i1 := k * 4 + 1) (i2 := k * 4 + 2) (i3 := k * 4 + 3) (v0 := .int .i64 seq) (v1 := .int .i64 0) (v2 := .int .i64 code) (v3 := .int .i64 value) (own_below HOL.out HBX.out) HO0.out (by decide))
   have HPB := Zd (below4 (i := k * 4) (j := k * 4 + 1) (k := k * 4 + 2) (l := k * 4 + 3) (u := .int .i64 seq) (v := .int .i64 0) (x := .int .i64 code) (y := .int .i64 value) (HBX.out.mono HSZ.out) hg1)
   have HG := Zd ((((HY0.out.other HN0.out (k * 4) (.int .i64 seq)).other HN0.out (k * 4 + 1) (.int .i64 0)).other HN0.out (k * 4 + 2) (.int .i64 code)).other HN0.out (k * 4 + 3) (.int .i64 value))
   have HH := Zd ((((HY1.out.other HN1.out (k * 4) (.int .i64 seq)).other HN1.out (k * 4 + 1) (.int .i64 0)).other HN1.out (k * 4 + 2) (.int .i64 code)).other HN1.out (k * 4 + 3) (.int .i64 value))
   have HQ : Hid (base <= w.heap.size + 1) := Zd (by have := HSZ.out; omega)
   generalize hdl : dn.length = dl at *
   have HDL2 := Zd hdl
   clear hdl hin hk hg1 hg2
   go_enter Tryz.func166, Tryz.ntmps166
   go_wp2
   have e1 : li.length = ll := hll
   refine bodyPost_ret (v := clrV ⟨cap, LA, lc, li, some ⟨g, 0, none⟩, dc, setR dn k ⟨seq, 0, code, value⟩⟩) (ret_cell (g := w.heap.size + 1) rfl rfl (clr_load (x := ⟨cap, LA, lc, li, some ⟨g, 0, none⟩, dc, setR dn k ⟨seq, 0, code, value⟩⟩) (put3 HH.out) (by simp only [Clr.cells, e1, HDL.out]))) rfl ?_
   refine ⟨by simp only [clrV, e1], ⟨?_, ?_⟩, below3 HPB.out HQ.out⟩
   . simp only [e1]; exact own_put3 HPL.out HH.out (by decide)
   . simp only [HDL.out]; rw [HR.out]; exact own_put3 HPD.out HH.out (by decide)
 . have HR : Hid (setR dn t ⟨seq, 0, code, value⟩ = dn) := Zd (by unfold setR; rw [if_neg hin])
   rw [HR.out]
   have hor : ¬ 0 <= t ∨ 0 <= t /\ ¬ t < (dn.length : Int) := by unfold inL at hin; omega
   generalize hdl : dn.length = dl at *
   have HDL2 := Zd hdl
   have e1 : li.length = ll := hll
   clear hdl hin
   have hq : base <= w.heap.size + 1 := by have := HSZ.out; omega
   have HQ := Zd hq
   clear hq
   rcases hor with ht | ⟨ht, ht2⟩
   all_goals
    go_enter Tryz.func166, Tryz.ntmps166
    go_wp2
    have e2 : dn.length = dl := HDL2.out
    refine bodyPost_ret (v := clrV ⟨cap, LA, lc, li, DA, dc, dn⟩) (ret_cell (g := w.heap.size + 1) rfl rfl (clr_load (x := ⟨cap, LA, lc, li, DA, dc, dn⟩) (blk_new (cs := [.int .i64 cap, .slice LA ll lc, .slice DA dl dc]) (by simp)) (by simp only [Clr.cells, e1, e2]))) rfl ?_
    refine ⟨by simp only [clrV, e1, e2], ⟨?_, ?_⟩, (below_two _ _ _).mono HSZ.out⟩
    . simp only [e1]; exact own_below HOL.out (below_two _ _ _)
    . simp only [e2]; exact own_below HOD.out (below_two _ _ _)
theorem own_in {w : World} {base : Nat} {e : TypeId} {s n : Nat} {v : Value} {xs : List Value} (h : w.ownsRow base e s v n xs) : ∀ k, v.ownBlock = some k -> k < w.heap.size := by
 intro k hk
 rcases h.2 with ⟨rfl, _⟩ | ⟨g, cap, cur, rfl, hg, hh, _⟩
 . simp [Value.ownBlock] at hk
 . simp only [Value.ownBlock, Option.some.injEq] at hk
   subst hk
   rcases Nat.lt_or_ge g w.heap.size with hlt | hge
   . exact hlt
   . rw [Array.getElem?_eq_none hge] at hh; cases hh
theorem own_far {w : World} {base N : Nat} {e : TypeId} {s n g : Nat} {v : Value} {xs : List Value} (h : w.ownsRow base e s v n xs) (h0 : ∀ k, v.ownBlock = some k -> k < N) (hg : N <= g) (i : Nat) (u : Value) :
  (w.setCell ⟨g, i, none⟩ u).ownsRow base e s v n xs := by
 refine ⟨h.1, ?_⟩
 rcases h.2 with h2 | ⟨k, cap, cur2, hv, hb, hh, r⟩
 . exact .inl h2
 . have := h0 k (by rw [hv]; rfl)
   exact .inr ⟨k, cap, cur2, hv, hb, (Below.heap_setCell w ⟨g, i, none⟩ u k (by show k ≠ g; omega)).trans hh, r⟩
theorem own_grown_ty {w w' : World} {base base2 : Nat} {e e' : TypeId} {s s' n n2 : Nat} {v v2 : Value} {xs ys : List Value} (h : w.ownsRow base e s v n xs) (h2 : w.ownsRow base2 e' s' v2 n2 ys) (hne : e ≠ e') (hg : w.grownBy w' v2.ownBlock) : w'.ownsRow base e s v n xs := by
 refine ⟨h.1, ?_⟩
 rcases h.2 with h3 | ⟨k, cap, cur, hv, hb, hh, r⟩
 . exact .inl h3
 . have hlt : k < w.heap.size := by
    rcases Nat.lt_or_ge k w.heap.size with hlt | hge
    . exact hlt
    . rw [Array.getElem?_eq_none hge] at hh; cases hh
   refine .inr ⟨k, cap, cur, hv, hb, (hg.block k hlt ?_).trans hh, r⟩
   intro hk
   rcases h2.2 with ⟨hv2, _⟩ | ⟨k2, cap2, cur2, hv2, _, hh2, _⟩
   . rw [hv2] at hk; simp [Value.ownBlock] at hk
   . rw [hv2] at hk
     simp only [Value.ownBlock, Option.some.injEq] at hk
     subst hk
     rw [hh] at hh2
     simp only [Option.some.injEq, Obj.cells.injEq] at hh2
     exact hne hh2.2.1
end Go.Proofs.YtieglgahfeecbaaGreatDoor
