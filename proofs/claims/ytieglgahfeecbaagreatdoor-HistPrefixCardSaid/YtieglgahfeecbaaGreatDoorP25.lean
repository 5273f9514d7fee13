/- hall: Start, walked. (printed by gen_ha17.py) -/
import Derived.Test.YtieglgahfeecbaaGreatDoorP4
import Derived.Test.YtieglgahfeecbaaGreatDoorP7
import Derived.Test.YtieglgahfeecbaaGreatDoorP24
set_option maxHeartbeats 64000000
set_option maxRecDepth 100000
namespace Go.Proofs.YtieglgahfeecbaaGreatDoor
open Go.RowKit Go.Sort
attribute [local go_sem ↓] Go.wp_at_zero Go.wp_at_succ
def casesK (many : Int) (k : Nat) (M : List Int) : List Cse := ((List.range k).filter fun i : Nat => decide ((i : Int) < many)).map fun i : Nat => caseR (M.getD i 0)
theorem casesK_succ (many : Int) (k : Nat) (M : List Int) : casesK many (k + 1) M = casesK many k M ++ (if (k : Int) < many then [caseR (M.getD k 0)] else []) := by
 unfold casesK
 rw [List.range_succ, List.filter_append, List.map_append]
 congr 1
 by_cases h : (k : Int) < many
 . simp [h]
 . simp [h]
theorem casesK_len (many : Int) (k : Nat) (M : List Int) : (casesK many k M).length <= k := by
 unfold casesK
 rw [List.length_map]
 exact Nat.le_trans (List.length_filter_le _ _) (by simp)
theorem wtr_load {w : World} {g : Nat} {cs : List Value} {x : Wtr} (h : Blk w g 128 cs) (hc : cs = x.cells) : (loadVar 128 ⟨g, 0, none⟩).run Tryz.prog w = .ok (wtrV x) w := by
 subst hc
 exact run_loadVar_row (P := Tryz.prog) w g 128 128 _ (0, 0) _ h Tryz.underlying128 rfl (by kernel_rfl)
theorem rdr_wait (g b : Nat) (L : List Int) (w : World) (h : RdrAt w g b L) (hn : 4 <= L.length) :
  Calls Tryz.prog 136 #[.pointer (some ⟨g, 0, none⟩)] w fun e w' =>
   ∃ y : Wtr, e = .returned (wtrV y) /\ y.p = waitR L /\ w'.ownsRow w.heap.size 100 3 (.slice y.A y.cs.length y.c) y.cs.length (rows y.cs) /\ RdrAt w' g b (L.drop 4) /\ Only g w w' := by
 match L, h, hn with
 | [], _, hn => simp at hn
 | x0 :: M, h, hn =>
   have hbig := h.big x0 (List.mem_cons_self ..)
   obtain ⟨u, rfl⟩ : ∃ u : Nat, x0 = u := ⟨x0.toNat, by omega⟩
   have hu : u < 18446744073709551616 := by omega
   have hgl := h.gl
   have hbl := h.bl
   have HM : Hid (3 <= M.length) := Zd (by simp at hn; omega)
   have HDR : Hid (((u : Int) :: M).drop 4 = M.drop 3) := Zd rfl
   have HCR : Hid (waitR ((u : Int) :: M) = ⟨(u : Int) % 2 == 1, (u : Int) / 4294967296, (u : Int) / 16 % 1048576, casesK ((u : Int) / 2 % 8) 3 M⟩) := Zd (by
    unfold waitR casesK
    simp only [List.getD_cons_zero]
    congr 1
    refine List.map_congr_left (fun i _ => ?_)
    rw [Nat.add_comm, List.getD_cons_succ])
   have f1 := and_pow u 1 hu 1 2 (by decide) rfl rfl
   have f2 := shr_and u 16 20 hu 16 1048575 1048576 rfl (by decide) rfl rfl
   have f3 := shr_and u 2 3 hu 2 7 8 rfl (by decide) rfl rfl
   have p1 : 0 <= (u : Int) / 4294967296 /\ (u : Int) / 4294967296 < 4294967296 := by omega
   have p2 : 0 <= (u : Int) / 16 % 1048576 /\ (u : Int) / 16 % 1048576 < 1048576 := by omega
   have p5 : 0 <= (u : Int) / 2 % 8 /\ (u : Int) / 2 % 8 < 8 := by omega
   obtain ⟨p1a, p1b⟩ := p1
   obtain ⟨p2a, p2b⟩ := p2
   obtain ⟨p5a, p5b⟩ := p5
   have HBZ : Hid (Blk (w.alloc (.cells #[.bool false, .int .i64 0, .int .i64 0, .slice none 0 0] 128)) w.heap.size 128 [.bool false, .int .i64 0, .int .i64 0, .slice none 0 0]) := Zd (blk_new rfl)
   have HBX := Zd ((Below.refl w.heap.size w).alloc (Nat.le_refl _) (.cells #[.bool false, .int .i64 0, .int .i64 0, .slice none 0 0] 128))
   have HNX := Zd (fun W (hW : Below w.heap.size w W) => rdr_next g b (u : Int) M W (h.low hW hgl hbl))
   clear h hn hbig hu
   generalize (u : Int) % 2 = z1 at *
   generalize (u : Int) / 16 % 1048576 = z3 at *
   generalize hz5 : (u : Int) / 2 % 8 = z5 at *
   clear hz5
   generalize waitR ((u : Int) :: M) = R at *
   go_enter Tryz.func136, Tryz.ntmps136
   go_upto_region 2 with (go_at_call 134; refine (HNX.out _ HBX.out).mono ?_; rintro er w1 ⟨rfl, hr1, ho1⟩; have HR1 := Zd hr1; have HO1 := Zd ho1; clear hr1 ho1)
   have n1 : w.heap.size ≠ g := Nat.ne_of_gt hgl
   have HZ1 := Zd (HBZ.out.only HO1.out n1)
   have HON1 := Zd ((Only.of_below (g := g) HBX.out).trans HO1.out)
   have hsz1 : w.heap.size + 1 <= w1.heap.size := by have := HZ1.out.lt; omega
   clear HBZ HBX HO1 HNX
   go_upto_region 3 with fail
   generalize (z1 == 1) = e1 at *
   generalize (u : Int) / 4294967296 = z2 at *
   have HK6 : Hid (Blk (w1.alloc (.cells #[.bool e1, .int .i64 z2, .int .i64 z3, .slice none 0 0] 128)) w1.heap.size 128 [.bool e1, .int .i64 z2, .int .i64 z3, .slice none 0 0]) := Zd (blk_new rfl)
   have HBV := Zd ((Below.refl w1.heap.size w1).alloc (Nat.le_refl _) (.cells #[.bool e1, .int .i64 z2, .int .i64 z3, .slice none 0 0] 128))
   have HRV := Zd (HR1.out.below HBV.out)
   have HZV := Zd (HZ1.out.below HBV.out HZ1.out.lt)
   have HOV := Zd (HON1.out.then_ (HBV.out.mono (by omega : w.heap.size <= w1.heap.size)))
   clear HBV HZ1 HR1 HON1
   have n3 : g ≠ w1.heap.size := by omega
   generalize w1.alloc (.cells #[.bool e1, .int .i64 z2, .int .i64 z3, .slice none 0 0] 128) = V at *
   generalize w1.heap.size = k6 at *
   have n4 : w.heap.size ≠ k6 := by omega
   have n4' := n4.symm
   go_upto_region 5 with fail
   go_loopg [25] 3 (fun gg i wr => ∃ (k : Nat) (cs : List Cse) (A : Option Addr) (d : Nat), k <= 3 /\ gg = 3 - k /\ i = .int .i64 k /\ cs = casesK z5 k M /\ RdrAt wr g b (M.drop k) /\
    Blk wr k6 128 [.bool e1, .int .i64 z2, .int .i64 z3, .slice A cs.length d] /\ Blk wr w.heap.size 128 [.bool false, .int .i64 0, .int .i64 0, .slice none 0 0] /\
    wr.ownsRow w.heap.size 100 3 (.slice A cs.length d) cs.length (rows cs) /\ Only g w wr)
   case atStart => exact ⟨0, [], none, 0, by omega, rfl, rfl, rfl, by simpa using HRV.out, HK6.out, HZV.out, own_nil _ _ _ _, HOV.out⟩
   case round =>
    obtain ⟨k, cs, A, d, hk, hg, rfl, hcs, hr, hkk, hz, how, ho⟩ := hrel
    have HG := Zd hg
    have HKR := Zd hkk
    have HZR := Zd hz
    have HOR := Zd how
    have HON := Zd ho
    have HCS := Zd hcs
    have hl3 : cs.length <= 3 := by have := casesK_len z5 k M; rw [hcs]; omega
    clear HK6 HZV HRV HOV hg hkk hz how ho hcs
    by_cases hlt : k < 3
    . have hkM : k < M.length := by have := HM.out; omega
      rw [drop_cons_getD hkM] at hr
      have hx := hr.big _ (List.mem_cons_self ..)
      have HS := Zd (casesK_succ z5 k M)
      have HNX := Zd (rdr_next g b _ _ wr hr)
      clear hr hkM
      generalize M.getD k 0 = x at *
      obtain ⟨v, rfl⟩ : ∃ v : Nat, x = v := ⟨x.toNat, by omega⟩
      have hv : v < 18446744073709551616 := by omega
      have hgl' := HKR.out.lt
      have q0 : (k : Int) < 3 := by omega
      by_cases hkm : (k : Int) < z5
      . rw [if_pos hkm, <- HCS.out] at HS
        have HCE : Hid (caseR (v : Int) = ⟨(v : Int) % 256, (v : Int) / 256 % 65536, (v : Int) / 4294967296⟩) := Zd rfl
        rw [HCE.out] at HS
        have t1 := and_pow v 8 hv 255 256 (by decide) rfl rfl
        have t2 := shr_and v 256 16 hv 256 65535 65536 rfl (by decide) rfl rfl
        have r1 : 0 <= (v : Int) % 256 /\ (v : Int) % 256 < 256 := by omega
        have r2 : 0 <= (v : Int) / 256 % 65536 /\ (v : Int) / 256 % 65536 < 65536 := by omega
        have r3 : 0 <= (v : Int) / 4294967296 /\ (v : Int) / 4294967296 < 4294967296 := by omega
        obtain ⟨r1a, r1b⟩ := r1
        obtain ⟨r2a, r2b⟩ := r2
        obtain ⟨r3a, r3b⟩ := r3
        clear hx hv HCE
        generalize (v : Int) % 256 = c1 at *
        generalize (v : Int) / 256 % 65536 = c2 at *
        go_upto_region 9 with (go_at_call 134; refine HNX.out.mono ?_; rintro er w3 ⟨rfl, hr3, ho3⟩; have HR3 := Zd hr3; have HN3 := Zd ho3; clear hr3 ho3)
        have HK3 := Zd (HKR.out.only HN3.out n3.symm)
        have HZ3 := Zd (HZR.out.only HN3.out n1)
        have HO3 := Zd (own_Only HOR.out HN3.out hgl)
        have HON3 := Zd (HON.out.trans HN3.out)
        have hs3 : w.heap.size <= w3.heap.size := HON3.out.size
        have k4 := HK3.out.cell (i := 3) rfl
        have hl6 : k6 < w3.heap.size := HK3.out.lt
        clear HKR HZR HOR HN3 HON
        have HK3a := Zd (HK3.out.alloc (.cells #[.int .i64 c1, .int .i64 c2, .int .i64 ((v : Int) / 4294967296)] 100))
        have HZ3a := Zd (HZ3.out.alloc (.cells #[.int .i64 c1, .int .i64 c2, .int .i64 ((v : Int) / 4294967296)] 100))
        have HO3a := Zd (HO3.out.alloc (.cells #[.int .i64 c1, .int .i64 c2, .int .i64 ((v : Int) / 4294967296)] 100))
        have HY : Hid (rows cs ++ rows [(⟨c1, c2, (v : Int) / 4294967296⟩ : Cse)] = rows (casesK z5 (k + 1) M) /\ (casesK z5 (k + 1) M).length = cs.length + 1) := Zd (by rw [HS.out]; exact ⟨by rw [rows_append], by simp⟩)
        clear k4
        have k4 := HK3.out.cell (i := 3) rfl
        go_wp2_with (at_builtin; refine wpList_app rfl (.tmp 34) (.tmp 46) 38 100 rfl w.heap.size (cseV Cse.none) 3 24 Tryz.underlying38 CloneC_info rfl (by decide) A cs.length d (rows cs) rfl HO3a.out (some ⟨w3.heap.size, 0, none⟩) 1 1 (rows [(⟨c1, c2, (v : Int) / 4294967296⟩ : Cse)]) rfl (by simp) rfl (blk_new rfl).rd (rows_one _) (cs.length + 1) rfl (rows (casesK z5 (k + 1) M)) HY.out.1 (by unfold maxLen; omega) (by omega) (Nat.le_trans hs3 (by simp)) ?_; intro A4 c4 w4 hown4 hg4 hb4; have HK4 := Zd (blk_grown HK3a.out hg4 (own_blk_neL HO3a.out HK3a.out (by decide))); have HZ4 := Zd (blk_grown HZ3a.out hg4 (own_blk_neL HO3a.out HZ3a.out (by decide))); have HO4 := Zd hown4; have HB4 := Zd (((Below.refl w.heap.size w3).alloc hs3 (.cells #[.int .i64 c1, .int .i64 c2, .int .i64 ((v : Int) / 4294967296)] 100)).trans hb4); clear hown4 hg4 hb4 k4; have k4 := HK4.out.cell (i := 3) rfl; have k4f := HK4.out.frozen 3)
        go_roundg (3 - (k + 1))
        case measure => rw [HG.out]; omega
        case rel =>
         refine ⟨k + 1, casesK z5 (k + 1) M, A4, c4, by omega, rfl, by go_num, rfl, ?_, ?_, ?_, ?_, ?_⟩
         . exact HR3.out.low (HB4.out.setCell (p := ⟨k6, 3, none⟩) (by omega : w.heap.size <= k6) _) hgl hbl
         . rw [HY.out.2]; exact HK4.out.set_ 3 _
         . exact HZ4.out.other n4 3 _
         . rw [HY.out.2]; exact own_ty HO4.out HK4.out (by decide) 3 _
         . exact HON3.out.then_ (HB4.out.setCell (p := ⟨k6, 3, none⟩) (by omega : w.heap.size <= k6) _)
      . rw [if_neg hkm, List.append_nil, <- HCS.out] at HS
        clear hx hv
        go_wp2_with (go_at_call 134; refine HNX.out.mono ?_; rintro er w3 ⟨rfl, hr3, ho3⟩; have HR3 := Zd hr3; have HN3 := Zd ho3; clear hr3 ho3)
        go_roundg (3 - (k + 1))
        case measure => rw [HG.out]; omega
        case rel => exact ⟨k + 1, cs, A, d, by omega, rfl, by go_num, HS.out.symm, HR3.out, HKR.out.only HN3.out n3.symm, HZR.out.only HN3.out n1, own_Only HOR.out HN3.out hgl, HON.out.trans HN3.out⟩
    . obtain rfl : k = 3 := by omega
      have HRE := Zd hr
      clear hr
      have k0 := HKR.out.cell (i := 0) rfl
      have k1 := HKR.out.cell (i := 1) rfl
      have k2 := HKR.out.cell (i := 2) rfl
      have k3 := HKR.out.cell (i := 3) rfl
      have z0c := HZR.out.cell (i := 0) rfl
      have z0f := HZR.out.frozen 0
      have z1c := HZR.out.cell (i := 1) rfl
      have z1f := HZR.out.frozen 1
      have z2c := HZR.out.cell (i := 2) rfl
      have z2f := HZR.out.frozen 2
      have z3c := HZR.out.cell (i := 3) rfl
      have z3f := HZR.out.frozen 3
      go_wp2_with fail
      refine bodyPost_ret (v := wtrV ⟨e1, z2, z3, A, d, cs⟩) (ret_cell (g := w.heap.size) rfl rfl (wtr_load (x := ⟨e1, z2, z3, A, d, cs⟩) (put4 HZR.out) rfl)) rfl ?_
      refine ⟨⟨e1, z2, z3, A, d, cs⟩, rfl, by rw [HCR.out, <- HCS.out]; rfl, ?_, ?_, ?_⟩
      . exact own_put4 HOR.out HZR.out (by decide)
      . rw [HDR.out]
        exact HRE.out.low (below4 (Below.refl w.heap.size wr) (g := w.heap.size) (Nat.le_refl _)) hgl hbl
      . exact HON.out.then_ (below4 (Below.refl w.heap.size wr) (g := w.heap.size) (Nat.le_refl _))
section
open Go.RowKit Go.Sort
structure RdSt (g b k7 : Nat) (V w : World) (L : List Int) (h : Hal) : Prop where
 rdr : RdrAt w g b L
 box : Blk w k7 87 [.int .i64 h.ticket, .slice h.CA h.chans.length h.cc, .slice h.WA h.waits.length h.wc, .slice h.DA h.done.length h.dc]
 own : OwnHal V.heap.size w h
 on : Only g V w
section
variable {g b k7 : Nat} {V w w' : World} {L L' : List Int}
theorem RdSt.call {h : Hal} (H : RdSt g b k7 V w L h) (ho : Only g w w') (hr : RdrAt w' g b L') (hg : g < V.heap.size) (hk : k7 ≠ g) : RdSt g b k7 V w' L' h :=
 ⟨hr, H.box.only ho hk, ⟨own_Only H.own.cr ho hg, fun x hx => own_Only (H.own.cb x hx) ho hg, ⟨own_Only H.own.wr.row ho hg, fun x hx => own_Only (H.own.wr.cs x hx) ho hg⟩, own_Only H.own.dr ho hg⟩, H.on.trans ho⟩
theorem RdSt.below {h : Hal} (H : RdSt g b k7 V w L h) (hb : Below w.heap.size w w') : RdSt g b k7 V w' L h :=
 ⟨H.rdr.below hb, H.box.below hb H.box.lt, H.own.below hb, H.on.then_ (hb.mono H.on.size)⟩
theorem RdSt.chan {tk : Int} {A WA DA A' : Option Addr} {c wc dc c' : Nat} {l : List Chn} {wts : List Wtr} {dn : List Resr} {y : Chn} (H : RdSt g b k7 V w L ⟨tk, A, c, l, WA, wc, wts, DA, dc, dn⟩)
  (hy : OwnBuf V.heap.size w y) (hown : w'.ownsRow V.heap.size 124 5 (.slice A' (l.length + 1) c') (l.length + 1) (rows (l ++ [y]))) (hg : w.grownBy w' (Value.ownBlock (.slice A l.length c)))
  (hgV : g < V.heap.size) (hbV : b < V.heap.size) (hk : V.heap.size <= k7) :
  RdSt g b k7 V (w'.setCell ⟨k7, 1, none⟩ (.slice A' (l.length + 1) c')) L ⟨tk, A', c', l ++ [y], WA, wc, wts, DA, dc, dn⟩ := by
 have hB : Below V.heap.size w w' := own_grown H.own.cr H.on.size hg
 have hbox := blk_grown H.box hg (own_blk_neL H.own.cr H.box (by decide))
 have hB2 : Below V.heap.size w (w'.setCell ⟨k7, 1, none⟩ (.slice A' (l.length + 1) c')) := hB.setCell (p := ⟨k7, 1, none⟩) hk _
 have hlen : (l ++ [y]).length = l.length + 1 := by simp
 refine ⟨H.rdr.low hB2 hgV hbV, ?_, ⟨?_, fun x hx => ?_, ?_, ?_⟩, H.on.then_ hB2⟩
 . simp only [hlen]; exact hbox.set_ 1 _
 . simp only [hlen]; exact own_ty hown hbox (by decide) 1 _
 . rcases List.mem_append.1 hx with h1 | h1
   . exact own_ty (own_grown_ty (H.own.cb x h1) H.own.cr (by decide) hg) hbox (by decide) 1 _
   . simp only [List.mem_singleton] at h1
     rw [h1]
     exact own_ty (own_grown_ty hy H.own.cr (by decide) hg) hbox (by decide) 1 _
 . exact ⟨own_ty (own_grown_ty H.own.wr.row H.own.cr (by decide) hg) hbox (by decide) 1 _, fun x hx => own_ty (own_grown_ty (H.own.wr.cs x hx) H.own.cr (by decide) hg) hbox (by decide) 1 _⟩
 . exact own_ty (own_grown_ty H.own.dr H.own.cr (by decide) hg) hbox (by decide) 1 _
theorem RdSt.wait {tk : Int} {A WA DA A' : Option Addr} {c wc dc c' : Nat} {l : List Chn} {wts : List Wtr} {dn : List Resr} {y : Wtr} (H : RdSt g b k7 V w L ⟨tk, A, c, l, WA, wc, wts, DA, dc, dn⟩)
  (hy : w.ownsRow V.heap.size 100 3 (.slice y.A y.cs.length y.c) y.cs.length (rows y.cs)) (hown : w'.ownsRow V.heap.size 128 4 (.slice A' (wts.length + 1) c') (wts.length + 1) (rows (wts ++ [y]))) (hg : w.grownBy w' (Value.ownBlock (.slice WA wts.length wc)))
  (hgV : g < V.heap.size) (hbV : b < V.heap.size) (hk : V.heap.size <= k7) :
  RdSt g b k7 V (w'.setCell ⟨k7, 2, none⟩ (.slice A' (wts.length + 1) c')) L ⟨tk, A, c, l, A', c', wts ++ [y], DA, dc, dn⟩ := by
 have hB : Below V.heap.size w w' := own_grown H.own.wr.row H.on.size hg
 have hbox := blk_grown H.box hg (own_blk_neL H.own.wr.row H.box (by decide))
 have hB2 : Below V.heap.size w (w'.setCell ⟨k7, 2, none⟩ (.slice A' (wts.length + 1) c')) := hB.setCell (p := ⟨k7, 2, none⟩) hk _
 have hlen : (wts ++ [y]).length = wts.length + 1 := by simp
 refine ⟨H.rdr.low hB2 hgV hbV, ?_, ⟨?_, fun x hx => ?_, ⟨?_, fun x hx => ?_⟩, ?_⟩, H.on.then_ hB2⟩
 . simp only [hlen]; exact hbox.set_ 2 _
 . exact own_ty (own_grown_ty H.own.cr H.own.wr.row (by decide) hg) hbox (by decide) 2 _
 . exact own_ty (own_grown_ty (H.own.cb x hx) H.own.wr.row (by decide) hg) hbox (by decide) 2 _
 . simp only [hlen]; exact own_ty hown hbox (by decide) 2 _
 . rcases List.mem_append.1 hx with h1 | h1
   . exact own_ty (own_grown_ty (H.own.wr.cs x h1) H.own.wr.row (by decide) hg) hbox (by decide) 2 _
   . simp only [List.mem_singleton] at h1
     rw [h1]
     exact own_ty (own_grown_ty hy H.own.wr.row (by decide) hg) hbox (by decide) 2 _
 . exact own_ty (own_grown_ty H.own.dr H.own.wr.row (by decide) hg) hbox (by decide) 2 _
theorem RdSt.done {tk : Int} {A WA DA A' : Option Addr} {c wc dc c' : Nat} {l : List Chn} {wts : List Wtr} {dn dn' : List Resr} (H : RdSt g b k7 V w L ⟨tk, A, c, l, WA, wc, wts, DA, dc, dn⟩)
  (hown : w.ownsRow V.heap.size 42 4 (.slice A' dn'.length c') dn'.length (rows dn')) (hgV : g < V.heap.size) (hbV : b < V.heap.size) (hk : V.heap.size <= k7) :
  RdSt g b k7 V (w.setCell ⟨k7, 3, none⟩ (.slice A' dn'.length c')) L ⟨tk, A, c, l, WA, wc, wts, A', c', dn'⟩ := by
 have hB2 : Below V.heap.size w (w.setCell ⟨k7, 3, none⟩ (.slice A' dn'.length c')) := (Below.refl _ w).setCell (p := ⟨k7, 3, none⟩) hk _
 have h1 := H.own.boxedH H.box (i := 3) (v := .slice A' dn'.length c')
 exact ⟨H.rdr.low hB2 hgV hbV, H.box.set_ 3 _, ⟨h1.cr, h1.cb, h1.wr, own_ty hown H.box (by decide) 3 _⟩, H.on.then_ hB2⟩
end
def RetHalO (o : Option HallP) (w : World) (e : Ending) (w' : World) : Prop :=
 ∃ y : Hal, e = .returned (.tuple #[halV y, .bool o.isSome]) /\ (∀ p, o = some p -> y.p = p) /\ OwnHal w.heap.size w' y /\ Below w.heap.size w w'
theorem OwnHal.none (base : Nat) (w : World) : OwnHal base w Hal.none := ⟨own_nil _ _ _ _, fun x hx => (by cases hx), ⟨own_nil _ _ _ _, fun x hx => (by cases hx)⟩, own_nil _ _ _ _⟩
theorem readH_no1 {c : Cfg} {L : List Int} (h : chkB c = false) : readH c L = .none := by
 unfold readH; rw [if_neg (by rw [h]; simp)]
theorem readH_no2 {c : Cfg} {L : List Int} (h : ¬ c.kind = 3) : readH c L = .none := by
 unfold readH; rw [if_neg (fun g => h g.2.1)]
theorem readH_no3 {c : Cfg} {L : List Int} (h : ¬ (L.length : Int) = sizeS c) : readH c L = .none := by
 unfold readH; rw [if_neg (fun g => h g.2.2.1)]
def chansR (cap : Nat) (k : Nat) (M : List Int) : List ChP := (List.range k).map fun i => chanR cap (M.drop (i * (1 + cap)))
def waitsR (k : Nat) (M : List Int) : List WtP := (List.range k).map fun i => waitR (M.drop (i * 4))
theorem chansR_succ (cap k : Nat) (M : List Int) : chansR cap (k + 1) M = chansR cap k M ++ [chanR cap (M.drop (k * (1 + cap)))] := by
 unfold chansR; rw [List.range_succ, List.map_append]; rfl
theorem waitsR_succ (k : Nat) (M : List Int) : waitsR (k + 1) M = waitsR k M ++ [waitR (M.drop (k * 4))] := by
 unfold waitsR; rw [List.range_succ, List.map_append]; rfl
theorem hallR_parts (c : Cfg) (x : Int) (M : List Int) (nch cap th : Nat) (h1 : c.chans = nch) (h2 : c.cap = cap) (h3 : c.threads = th) :
  hallR c (x :: M) = ⟨x % 4294967296, chansR cap nch M, waitsR th (M.drop (nch * (1 + cap))), resR th ((M.drop (nch * (1 + cap))).drop (th * 4))⟩ := by
 unfold hallR
 rw [h1, h2, h3]
 simp only [Int.toNat_natCast, List.getD_cons_zero]
 congr 1
 . unfold chansR
   refine List.map_congr_left (fun i _ => ?_)
   rw [Nat.add_comm 1 (i * (1 + cap)), List.drop_succ_cons]
 . unfold waitsR
   refine List.map_congr_left (fun i _ => ?_)
   rw [List.drop_drop, show 1 + nch * (1 + cap) + i * 4 = nch * (1 + cap) + i * 4 + 1 by omega, List.drop_succ_cons]
 . rw [List.drop_drop, show 1 + nch * (1 + cap) + th * 4 = nch * (1 + cap) + th * 4 + 1 by omega, List.drop_succ_cons]
theorem chanR_few (cap : Nat) (L : List Int) : (chanR cap L).buf.length <= cap := by
 unfold chanR
 exact rowR_len _ _ _
theorem waitR_few (L : List Int) : (waitR L).cs.length <= 3 := by
 unfold waitR
 rw [List.length_map]
 exact Nat.le_trans (List.length_filter_le _ _) (by simp)
end
theorem make_chan (n : Nat) (hn : n <= 1048576) (w : World) :
  (Instr.makeSlice 83 (.int .i64 (n : Int)) (.int .i64 (n : Int))).run Tryz.prog w = .ok (.slice (some ⟨w.heap.size, 0, none⟩) n n) (w.alloc (.cells (rows (List.replicate n Chn.none)).toArray 124)) := by
 obtain ⟨i, hi, hz, hs, hb⟩ := info_parts CloneCh_info
 have hr := run_make (P := Tryz.prog) w 83 124 i (chnV Chn.none) Tryz.underlying83 hi hz .i64 .i64 n n (by omega) (by omega) (by rw [hb]; omega) (by omega)
 simp only [Int.toNat_natCast] at hr
 rw [hr, hs]
 have := rows_made Chn.none n (Chn.none).cells.toArray rfl (by decide)
 rw [<- this]
 rfl
theorem make_wait (n : Nat) (hn : n <= 1048576) (w : World) :
  (Instr.makeSlice 84 (.int .i64 (n : Int)) (.int .i64 (n : Int))).run Tryz.prog w = .ok (.slice (some ⟨w.heap.size, 0, none⟩) n n) (w.alloc (.cells (rows (List.replicate n Wtr.none)).toArray 128)) := by
 obtain ⟨i, hi, hz, hs, hb⟩ := info_parts CloneWt_info
 have hr := run_make (P := Tryz.prog) w 84 128 i (wtrV Wtr.none) Tryz.underlying84 hi hz .i64 .i64 n n (by omega) (by omega) (by rw [hb]; omega) (by omega)
 simp only [Int.toNat_natCast] at hr
 rw [hr, hs]
 have := rows_made Wtr.none n (Wtr.none).cells.toArray rfl (by decide)
 rw [<- this]
 rfl
theorem make_res (n : Nat) (hn : n <= 1048576) (w : World) :
  (Instr.makeSlice 85 (.int .i64 (n : Int)) (.int .i64 (n : Int))).run Tryz.prog w = .ok (.slice (some ⟨w.heap.size, 0, none⟩) n n) (w.alloc (.cells (rows (List.replicate n Resr.none)).toArray 42)) := by
 obtain ⟨i, hi, hz, hs, hb⟩ := info_parts CloneRs_info
 have hr := run_make (P := Tryz.prog) w 85 42 i (rsV Resr.none) Tryz.underlying85 hi hz .i64 .i64 n n (by omega) (by omega) (by rw [hb]; omega) (by omega)
 simp only [Int.toNat_natCast] at hr
 rw [hr, hs]
 have := rows_made Resr.none n (Resr.none).cells.toArray rfl (by decide)
 rw [<- this]
 rfl
structure StaSt (base g : Nat) (w : World) (h : Hal) : Prop where
 box : Blk w g 87 [.int .i64 h.ticket, .slice h.CA h.chans.length h.cc, .slice h.WA h.waits.length h.wc, .slice h.DA h.done.length h.dc]
 own : OwnHal base w h
 lo : base <= g
theorem StaSt.made {base p t gc gw gd gs : Nat} {V : World} (hc : Blk V gc 124 (rows (List.replicate p Chn.none))) (hw : Blk V gw 128 (rows (List.replicate t Wtr.none))) (hd : Blk V gd 42 (rows (List.replicate t Resr.none)))
  (hs : Blk V gs 87 [.int .i64 0, .slice none 0 0, .slice none 0 0, .slice none 0 0]) (h1 : base <= gc) (h2 : base <= gw) (h3 : base <= gd) (h4 : base <= gs) (hp : p <= 8) (ht : t <= 64) :
  StaSt base gs ((((V.setCell ⟨gs, 0, none⟩ (.int .i64 0)).setCell ⟨gs, 1, none⟩ (.slice (some ⟨gc, 0, none⟩) p p)).setCell ⟨gs, 2, none⟩ (.slice (some ⟨gw, 0, none⟩) t t)).setCell ⟨gs, 3, none⟩ (.slice (some ⟨gd, 0, none⟩) t t))
   ⟨0, some ⟨gc, 0, none⟩, p, List.replicate p Chn.none, some ⟨gw, 0, none⟩, t, List.replicate t Wtr.none, some ⟨gd, 0, none⟩, t, List.replicate t Resr.none⟩ := by
 have ho : OwnHal base V ⟨0, some ⟨gc, 0, none⟩, p, List.replicate p Chn.none, some ⟨gw, 0, none⟩, t, List.replicate t Wtr.none, some ⟨gd, 0, none⟩, t, List.replicate t Resr.none⟩ := by
  refine ⟨?_, fun x hx => ?_, ⟨?_, fun x hx => ?_⟩, ?_⟩
  . simp only [List.length_replicate]
    exact own_blk1 hc h1 (by rw [rows_length, List.length_replicate]; rfl) (by unfold maxLen; omega)
  . rw [(List.mem_replicate.mp hx).2]
    exact own_nil _ _ _ _
  . simp only [List.length_replicate]
    exact own_blk1 hw h2 (by rw [rows_length, List.length_replicate]; rfl) (by unfold maxLen; omega)
  . rw [(List.mem_replicate.mp hx).2]
    exact own_nil _ _ _ _
  . simp only [List.length_replicate]
    exact own_blk1 hd h3 (by rw [rows_length, List.length_replicate]; rfl) (by unfold maxLen; omega)
 refine ⟨?_, (((ho.boxedH (i := 0) hs).boxedH (i := 1) (hs.set_ 0 _)).boxedH (i := 2) ((hs.set_ 0 _).set_ 1 _)).boxedH (i := 3) (((hs.set_ 0 _).set_ 1 _).set_ 2 _), h4⟩
 simp only [List.length_replicate]
 exact put4 hs
def mkC (cap : Int) : Chn := ⟨1, cap, true, false, none, 0, []⟩
def staL (s : List Int) (p k : Nat) : List Chn := (List.range p).map fun i => if i < k then mkC (s.getD i 0) else Chn.none
theorem staL_len (s : List Int) (p k : Nat) : (staL s p k).length = p := by unfold staL; simp
theorem staL_zero (s : List Int) (p : Nat) : staL s p 0 = List.replicate p Chn.none := by
 refine List.ext_getElem (by rw [staL_len]; simp) (fun i h1 h2 => ?_)
 unfold staL; simp
theorem staL_get (s : List Int) (p k i : Nat) (h : i < (staL s p k).length) : (staL s p k)[i] = if i < k then mkC (s.getD i 0) else Chn.none := by
 simp [staL]
theorem staL_set (s : List Int) (p k : Nat) : (staL s p k).set k (mkC (s.getD k 0)) = staL s p (k + 1) := by
 refine List.ext_getElem (by rw [List.length_set, staL_len, staL_len]) (fun i h1 h2 => ?_)
 by_cases e : k = i
 . subst e
   rw [List.getElem_set_self, staL_get, if_pos (by omega)]
 . rw [List.getElem_set_ne e, staL_get, staL_get]
   by_cases hi : i < k
   . rw [if_pos hi, if_pos (by omega)]
   . rw [if_neg hi, if_neg (by omega)]
theorem hal_load4 {w : World} {g n1 c1 n2 c2 n3 c3 : Nat} {x : Int} {A B C : Option Addr} (hb : Blk w g 87 [.int .i64 x, .slice A n1 c1, .slice B n2 c2, .slice C n3 c3]) : (loadVar 87 ⟨g, 0, none⟩).run Tryz.prog w = .ok (.agg #[.int .i64 x, .slice A n1 c1, .slice B n2 c2, .slice C n3 c3]) w :=
 run_loadVar_row (P := Tryz.prog) w g 87 87 _ (0, 0) _ hb Tryz.underlying87 rfl (by kernel_rfl)
def StaCut (base gz p t : Nat) (l : List Int) (w0 : World) (s5 : Value) (wx : World) : Prop :=
 ∃ (g gc gw gd : Nat), s5 = .pointer (some ⟨g, 0, none⟩) /\ StaSt base g wx ⟨0, some ⟨gc, 0, none⟩, p, staL l p 0, some ⟨gw, 0, none⟩, t, List.replicate t Wtr.none, some ⟨gd, 0, none⟩, t, List.replicate t Resr.none⟩ /\ gz < g /\ Below w0.heap.size w0 wx
theorem sta_end {base gz p t gc gw gd gs : Nat} {w0 wx : World} (l : List Int) (H : StaSt base gs wx ⟨0, some ⟨gc, 0, none⟩, p, List.replicate p Chn.none, some ⟨gw, 0, none⟩, t, List.replicate t Wtr.none, some ⟨gd, 0, none⟩, t, List.replicate t Resr.none⟩) (hb : Below w0.heap.size w0 wx) (hg : gz < gs) :
  StaCut base gz p t l w0 (.pointer (some ⟨gs, 0, none⟩)) wx :=
 ⟨gs, gc, gw, gd, rfl, by rw [staL_zero]; exact H, hg, hb⟩
theorem StaSt.store {base g gc k : Nat} {w : World} {h : Hal} (H : StaSt base g w h) (hA : h.CA = some ⟨gc, 0, none⟩) (hk : k < h.chans.length) (x : Chn) (hx : OwnBuf base w x) :
  StaSt base g (setsAt w gc (k * 5) (Chn.cells x)) ⟨h.ticket, h.CA, h.cc, h.chans.set k x, h.WA, h.wc, h.waits, h.DA, h.dc, h.done⟩ /\ Below base w (setsAt w gc (k * 5) (Chn.cells x)) := by
 have hd := H.own.cr
 rw [hA] at hd
 refine ⟨⟨?_, ⟨?_, fun y hy => ?_, H.own.wr.sets hd (by decide) (by decide) _ _, own_sets H.own.dr hd (by decide) _ _⟩, H.lo⟩, below_setsAt (own_base hd) _ _ _ (Below.refl base w)⟩
 . have := blk_sets H.box hd (by decide) (k * 5) (Chn.cells x)
   simpa using this
 . simp only [List.length_set, hA]
   exact own_whole hd rfl hk x
 . rcases List.mem_or_eq_of_mem_set hy with h1 | h1
   . exact (H.own.cb y h1).sets hd (by decide) _ _
   . rw [h1]; exact hx.sets hd (by decide) _ _
theorem hStart_any (c : Cfg) (w : World) (hc : chkB c = true) (hk : c.kind = 3) (H : CfgIn w c) :
  Calls Tryz.prog 38 #[cfgV c] w (RetHal (startH c) w) := by
 have hb := chk_cap hc
 have hst : (c.start.length : Int) <= c.chans := by
  simp only [chkB, ownB, inB, Bool.and_eq_true, decide_eq_true_eq] at hc
  grind
 obtain ⟨p, hp⟩ : ∃ p : Nat, c.chans = p := ⟨c.chans.toNat, by omega⟩
 obtain ⟨t, ht⟩ : ∃ t : Nat, c.threads = t := ⟨c.threads.toNat, by omega⟩
 obtain ⟨kind, threads, chans, cap, nodes, retire, patience, tags, seqs, gens, start, sa, sc⟩ := c
 simp only at hp ht hst hb
 subst hp
 subst ht
 have HSH : Hid (startH ⟨kind, t, p, cap, nodes, retire, patience, tags, seqs, gens, start, sa, sc⟩ = ⟨0, (staL start p start.length).map Chn.p, List.replicate t WtP.none, List.replicate t Resr.none⟩) := Zd (by
  unfold startH
  simp only
  rw [show clampI (p : Int) 8 = p from by unfold clampI; omega, show clampI (t : Int) 64 = t from by unfold clampI; omega]
  unfold staL
  rw [List.map_map]
  congr 1
  refine List.map_congr_left (fun i _ => ?_)
  simp only [Function.comp]
  by_cases hi : i < start.length
  . rw [if_pos hi, if_pos hi]; rfl
  . rw [if_neg hi, if_neg hi]; rfl)
 rw [HSH.out]
 have hp8 : p <= 8 := by omega
 have ht64 : t <= 64 := by omega
 have hp1 : (p : Int) <= 8 := by omega
 have ht1 : (t : Int) <= 64 := by omega
 have HRD := Zd H.1
 clear hc hk hb H HSH
 unfold cfgV
 simp only
 generalize hn : start.length = n at *
 have HN := Zd hn
 have hnp : n <= p := by omega
 clear hn hst
 obtain ⟨b0, b1, hb2⟩ := box2 w 24 87 [.int .i64 kind, .int .i64 (t : Int), .int .i64 (p : Int), .int .i64 cap, .int .i64 nodes, .int .i64 retire, .int .i64 patience, .int .i64 tags, .int .i64 seqs, .int .i64 gens, .slice sa n sc] [.int .i64 0, .slice none 0 0, .slice none 0 0, .slice none 0 0]
 have HY0 := Zd b0
 have HZ0 := Zd b1
 have HA := Zd hb2
 clear b0 b1 hb2
 go_enter Tryz.func38, Tryz.ntmps38
 go_upto_region 1 with fail
 generalize ((w.alloc (.cells #[.int .i64 kind, .int .i64 (t : Int), .int .i64 (p : Int), .int .i64 cap, .int .i64 nodes, .int .i64 retire, .int .i64 patience, .int .i64 tags, .int .i64 seqs, .int .i64 gens, .slice sa n sc] 24)).alloc (.cells #[.int .i64 0, .slice none 0 0, .slice none 0 0, .slice none 0 0] 87)) = W0 at *
 have y1 := HY0.out.cell (i := 1) rfl
 have y2 := HY0.out.cell (i := 2) rfl
 go_region
 clear y1 y2
 have HY1 := Zd (HY0.out.below (Below.refl _ W0).drew HY0.out.lt)
 have HZ1 := Zd (HZ0.out.below (Below.refl _ W0).drew HZ0.out.lt)
 have HB1 := Zd (HA.out.drew)
 generalize W0.drew = W1 at *
 go_upto_region 2 with fail
 go_cut [5] (fun s5 wx => StaCut W1.heap.size (w.heap.size + 1) p t start W1 s5 wx)
 case first =>
  have mc := make_chan p (by omega)
  have mw := make_wait t (by omega)
  have md := make_res t (by omega)
  have hlt1 := HZ1.out.lt
  refine wp_region_held_drew (S := fun _ => True) (by kernel_rfl) trivial (fun hHeld => ?_)
  refine tkHp 0 (.int .i64 (p : Int)) rfl hHeld ?_
  refine tkHp 2 (.int .i64 (t : Int)) rfl hHeld ?_
  refine tkHp 4 (.int .i64 (t : Int)) rfl hHeld ?_
  try simp only [Nrq, Nrs]
  have HB := Zd ((Below.refl W1.heap.size W1).drew)
  generalize W1.drew = V at *
  all_goals first
   | (refine wpAnyH_ready (rs := [1, 3, 5, 7]) (by decide +kernel) (by simp) ?_; refine AllReadyH.cons rfl (fun K hK => ?_) (AllReadyH.cons rfl (fun K hK => ?_) (AllReadyH.cons rfl (fun K hK => ?_) (AllReadyH.cons rfl (fun K hK => ?_) AllReadyH.nil))))
  all_goals
   rw [if_pos (by rfl)]
   go_simp
   first
    | (refine hK.out _ (V.alloc (.cells (rows (List.replicate p Chn.none)).toArray 124)) trivial (fun hHeld => ?_)
       clear hK K
       have hal := (Below.refl V.heap.size V).alloc (Nat.le_refl _) (.cells (rows (List.replicate p Chn.none)).toArray 124)
       try replace HW := Zd (HW.out.below hal HW.out.lt)
       try replace HD := Zd (HD.out.below hal HD.out.lt)
       try replace HG := Zd (HG.out.below hal HG.out.lt)
       have HC : Hid (Blk (V.alloc (.cells (rows (List.replicate p Chn.none)).toArray 124)) V.heap.size 124 (rows (List.replicate p Chn.none))) := Zd (blk_new rfl)
       have hggc : W1.heap.size <= V.heap.size := HB.out.size
       replace HB := Zd (btr HB.out hal)
       clear hal
       generalize V.alloc (.cells (rows (List.replicate p Chn.none)).toArray 124) = V2 at *
       generalize V.heap.size = gc at *)
    | (refine hK.out _ (V.alloc (.cells (rows (List.replicate t Wtr.none)).toArray 128)) trivial (fun hHeld => ?_)
       clear hK K
       have hal := (Below.refl V.heap.size V).alloc (Nat.le_refl _) (.cells (rows (List.replicate t Wtr.none)).toArray 128)
       try replace HC := Zd (HC.out.below hal HC.out.lt)
       try replace HD := Zd (HD.out.below hal HD.out.lt)
       try replace HG := Zd (HG.out.below hal HG.out.lt)
       have HW : Hid (Blk (V.alloc (.cells (rows (List.replicate t Wtr.none)).toArray 128)) V.heap.size 128 (rows (List.replicate t Wtr.none))) := Zd (blk_new rfl)
       have hggw : W1.heap.size <= V.heap.size := HB.out.size
       replace HB := Zd (btr HB.out hal)
       clear hal
       generalize V.alloc (.cells (rows (List.replicate t Wtr.none)).toArray 128) = V2 at *
       generalize V.heap.size = gw at *)
    | (refine hK.out _ (V.alloc (.cells (rows (List.replicate t Resr.none)).toArray 42)) trivial (fun hHeld => ?_)
       clear hK K
       have hal := (Below.refl V.heap.size V).alloc (Nat.le_refl _) (.cells (rows (List.replicate t Resr.none)).toArray 42)
       try replace HC := Zd (HC.out.below hal HC.out.lt)
       try replace HW := Zd (HW.out.below hal HW.out.lt)
       try replace HG := Zd (HG.out.below hal HG.out.lt)
       have HD : Hid (Blk (V.alloc (.cells (rows (List.replicate t Resr.none)).toArray 42)) V.heap.size 42 (rows (List.replicate t Resr.none))) := Zd (blk_new rfl)
       have hggd : W1.heap.size <= V.heap.size := HB.out.size
       replace HB := Zd (btr HB.out hal)
       clear hal
       generalize V.alloc (.cells (rows (List.replicate t Resr.none)).toArray 42) = V2 at *
       generalize V.heap.size = gd at *)
    | (refine hK.out _ (V.alloc (.cells #[.int .i64 0, .slice none 0 0, .slice none 0 0, .slice none 0 0] 87)) trivial (fun hHeld => ?_)
       clear hK K
       have hal := (Below.refl V.heap.size V).alloc (Nat.le_refl _) (.cells #[.int .i64 0, .slice none 0 0, .slice none 0 0, .slice none 0 0] 87)
       try replace HC := Zd (HC.out.below hal HC.out.lt)
       try replace HW := Zd (HW.out.below hal HW.out.lt)
       try replace HD := Zd (HD.out.below hal HD.out.lt)
       have HG : Hid (Blk (V.alloc (.cells #[.int .i64 0, .slice none 0 0, .slice none 0 0, .slice none 0 0] 87)) V.heap.size 87 [.int .i64 0, .slice none 0 0, .slice none 0 0, .slice none 0 0]) := Zd (blk_new rfl)
       have hggs : W1.heap.size <= V.heap.size := HB.out.size
       replace HB := Zd (btr HB.out hal)
       clear hal
       generalize V.alloc (.cells #[.int .i64 0, .slice none 0 0, .slice none 0 0, .slice none 0 0] 87) = V2 at *
       generalize V.heap.size = gs at *)
   clear V
   rename World => V
   try simp only [Nrq, Nrs]
  all_goals first
   | (refine wpAnyH_ready (rs := [1, 3, 5]) (by decide +kernel) (by simp) ?_; refine AllReadyH.cons rfl (fun K hK => ?_) (AllReadyH.cons rfl (fun K hK => ?_) (AllReadyH.cons rfl (fun K hK => ?_) AllReadyH.nil)))
   | (refine wpAnyH_ready (rs := [1, 3, 7]) (by decide +kernel) (by simp) ?_; refine AllReadyH.cons rfl (fun K hK => ?_) (AllReadyH.cons rfl (fun K hK => ?_) (AllReadyH.cons rfl (fun K hK => ?_) AllReadyH.nil)))
   | (refine wpAnyH_ready (rs := [1, 5, 7]) (by decide +kernel) (by simp) ?_; refine AllReadyH.cons rfl (fun K hK => ?_) (AllReadyH.cons rfl (fun K hK => ?_) (AllReadyH.cons rfl (fun K hK => ?_) AllReadyH.nil)))
   | (refine wpAnyH_ready (rs := [3, 5, 7]) (by decide +kernel) (by simp) ?_; refine AllReadyH.cons rfl (fun K hK => ?_) (AllReadyH.cons rfl (fun K hK => ?_) (AllReadyH.cons rfl (fun K hK => ?_) AllReadyH.nil)))
  all_goals
   rw [if_pos (by rfl)]
   go_simp
   first
    | (refine hK.out _ (V.alloc (.cells (rows (List.replicate p Chn.none)).toArray 124)) trivial (fun hHeld => ?_)
       clear hK K
       have hal := (Below.refl V.heap.size V).alloc (Nat.le_refl _) (.cells (rows (List.replicate p Chn.none)).toArray 124)
       try replace HW := Zd (HW.out.below hal HW.out.lt)
       try replace HD := Zd (HD.out.below hal HD.out.lt)
       try replace HG := Zd (HG.out.below hal HG.out.lt)
       have HC : Hid (Blk (V.alloc (.cells (rows (List.replicate p Chn.none)).toArray 124)) V.heap.size 124 (rows (List.replicate p Chn.none))) := Zd (blk_new rfl)
       have hggc : W1.heap.size <= V.heap.size := HB.out.size
       replace HB := Zd (btr HB.out hal)
       clear hal
       generalize V.alloc (.cells (rows (List.replicate p Chn.none)).toArray 124) = V2 at *
       generalize V.heap.size = gc at *)
    | (refine hK.out _ (V.alloc (.cells (rows (List.replicate t Wtr.none)).toArray 128)) trivial (fun hHeld => ?_)
       clear hK K
       have hal := (Below.refl V.heap.size V).alloc (Nat.le_refl _) (.cells (rows (List.replicate t Wtr.none)).toArray 128)
       try replace HC := Zd (HC.out.below hal HC.out.lt)
       try replace HD := Zd (HD.out.below hal HD.out.lt)
       try replace HG := Zd (HG.out.below hal HG.out.lt)
       have HW : Hid (Blk (V.alloc (.cells (rows (List.replicate t Wtr.none)).toArray 128)) V.heap.size 128 (rows (List.replicate t Wtr.none))) := Zd (blk_new rfl)
       have hggw : W1.heap.size <= V.heap.size := HB.out.size
       replace HB := Zd (btr HB.out hal)
       clear hal
       generalize V.alloc (.cells (rows (List.replicate t Wtr.none)).toArray 128) = V2 at *
       generalize V.heap.size = gw at *)
    | (refine hK.out _ (V.alloc (.cells (rows (List.replicate t Resr.none)).toArray 42)) trivial (fun hHeld => ?_)
       clear hK K
       have hal := (Below.refl V.heap.size V).alloc (Nat.le_refl _) (.cells (rows (List.replicate t Resr.none)).toArray 42)
       try replace HC := Zd (HC.out.below hal HC.out.lt)
       try replace HW := Zd (HW.out.below hal HW.out.lt)
       try replace HG := Zd (HG.out.below hal HG.out.lt)
       have HD : Hid (Blk (V.alloc (.cells (rows (List.replicate t Resr.none)).toArray 42)) V.heap.size 42 (rows (List.replicate t Resr.none))) := Zd (blk_new rfl)
       have hggd : W1.heap.size <= V.heap.size := HB.out.size
       replace HB := Zd (btr HB.out hal)
       clear hal
       generalize V.alloc (.cells (rows (List.replicate t Resr.none)).toArray 42) = V2 at *
       generalize V.heap.size = gd at *)
    | (refine hK.out _ (V.alloc (.cells #[.int .i64 0, .slice none 0 0, .slice none 0 0, .slice none 0 0] 87)) trivial (fun hHeld => ?_)
       clear hK K
       have hal := (Below.refl V.heap.size V).alloc (Nat.le_refl _) (.cells #[.int .i64 0, .slice none 0 0, .slice none 0 0, .slice none 0 0] 87)
       try replace HC := Zd (HC.out.below hal HC.out.lt)
       try replace HW := Zd (HW.out.below hal HW.out.lt)
       try replace HD := Zd (HD.out.below hal HD.out.lt)
       have HG : Hid (Blk (V.alloc (.cells #[.int .i64 0, .slice none 0 0, .slice none 0 0, .slice none 0 0] 87)) V.heap.size 87 [.int .i64 0, .slice none 0 0, .slice none 0 0, .slice none 0 0]) := Zd (blk_new rfl)
       have hggs : W1.heap.size <= V.heap.size := HB.out.size
       replace HB := Zd (btr HB.out hal)
       clear hal
       generalize V.alloc (.cells #[.int .i64 0, .slice none 0 0, .slice none 0 0, .slice none 0 0] 87) = V2 at *
       generalize V.heap.size = gs at *)
   clear V
   rename World => V
   try simp only [Nrq, Nrs]
  all_goals first
   | (refine wpAnyH_ready (rs := [1, 3]) (by decide +kernel) (by simp) ?_; refine AllReadyH.cons rfl (fun K hK => ?_) (AllReadyH.cons rfl (fun K hK => ?_) AllReadyH.nil))
   | (refine wpAnyH_ready (rs := [1, 5]) (by decide +kernel) (by simp) ?_; refine AllReadyH.cons rfl (fun K hK => ?_) (AllReadyH.cons rfl (fun K hK => ?_) AllReadyH.nil))
   | (refine wpAnyH_ready (rs := [1, 7]) (by decide +kernel) (by simp) ?_; refine AllReadyH.cons rfl (fun K hK => ?_) (AllReadyH.cons rfl (fun K hK => ?_) AllReadyH.nil))
   | (refine wpAnyH_ready (rs := [3, 5]) (by decide +kernel) (by simp) ?_; refine AllReadyH.cons rfl (fun K hK => ?_) (AllReadyH.cons rfl (fun K hK => ?_) AllReadyH.nil))
   | (refine wpAnyH_ready (rs := [3, 7]) (by decide +kernel) (by simp) ?_; refine AllReadyH.cons rfl (fun K hK => ?_) (AllReadyH.cons rfl (fun K hK => ?_) AllReadyH.nil))
   | (refine wpAnyH_ready (rs := [5, 7]) (by decide +kernel) (by simp) ?_; refine AllReadyH.cons rfl (fun K hK => ?_) (AllReadyH.cons rfl (fun K hK => ?_) AllReadyH.nil))
  all_goals
   rw [if_pos (by rfl)]
   go_simp
   first
    | (refine hK.out _ (V.alloc (.cells (rows (List.replicate p Chn.none)).toArray 124)) trivial (fun hHeld => ?_)
       clear hK K
       have hal := (Below.refl V.heap.size V).alloc (Nat.le_refl _) (.cells (rows (List.replicate p Chn.none)).toArray 124)
       try replace HW := Zd (HW.out.below hal HW.out.lt)
       try replace HD := Zd (HD.out.below hal HD.out.lt)
       try replace HG := Zd (HG.out.below hal HG.out.lt)
       have HC : Hid (Blk (V.alloc (.cells (rows (List.replicate p Chn.none)).toArray 124)) V.heap.size 124 (rows (List.replicate p Chn.none))) := Zd (blk_new rfl)
       have hggc : W1.heap.size <= V.heap.size := HB.out.size
       replace HB := Zd (btr HB.out hal)
       clear hal
       generalize V.alloc (.cells (rows (List.replicate p Chn.none)).toArray 124) = V2 at *
       generalize V.heap.size = gc at *)
    | (refine hK.out _ (V.alloc (.cells (rows (List.replicate t Wtr.none)).toArray 128)) trivial (fun hHeld => ?_)
       clear hK K
       have hal := (Below.refl V.heap.size V).alloc (Nat.le_refl _) (.cells (rows (List.replicate t Wtr.none)).toArray 128)
       try replace HC := Zd (HC.out.below hal HC.out.lt)
       try replace HD := Zd (HD.out.below hal HD.out.lt)
       try replace HG := Zd (HG.out.below hal HG.out.lt)
       have HW : Hid (Blk (V.alloc (.cells (rows (List.replicate t Wtr.none)).toArray 128)) V.heap.size 128 (rows (List.replicate t Wtr.none))) := Zd (blk_new rfl)
       have hggw : W1.heap.size <= V.heap.size := HB.out.size
       replace HB := Zd (btr HB.out hal)
       clear hal
       generalize V.alloc (.cells (rows (List.replicate t Wtr.none)).toArray 128) = V2 at *
       generalize V.heap.size = gw at *)
    | (refine hK.out _ (V.alloc (.cells (rows (List.replicate t Resr.none)).toArray 42)) trivial (fun hHeld => ?_)
       clear hK K
       have hal := (Below.refl V.heap.size V).alloc (Nat.le_refl _) (.cells (rows (List.replicate t Resr.none)).toArray 42)
       try replace HC := Zd (HC.out.below hal HC.out.lt)
       try replace HW := Zd (HW.out.below hal HW.out.lt)
       try replace HG := Zd (HG.out.below hal HG.out.lt)
       have HD : Hid (Blk (V.alloc (.cells (rows (List.replicate t Resr.none)).toArray 42)) V.heap.size 42 (rows (List.replicate t Resr.none))) := Zd (blk_new rfl)
       have hggd : W1.heap.size <= V.heap.size := HB.out.size
       replace HB := Zd (btr HB.out hal)
       clear hal
       generalize V.alloc (.cells (rows (List.replicate t Resr.none)).toArray 42) = V2 at *
       generalize V.heap.size = gd at *)
    | (refine hK.out _ (V.alloc (.cells #[.int .i64 0, .slice none 0 0, .slice none 0 0, .slice none 0 0] 87)) trivial (fun hHeld => ?_)
       clear hK K
       have hal := (Below.refl V.heap.size V).alloc (Nat.le_refl _) (.cells #[.int .i64 0, .slice none 0 0, .slice none 0 0, .slice none 0 0] 87)
       try replace HC := Zd (HC.out.below hal HC.out.lt)
       try replace HW := Zd (HW.out.below hal HW.out.lt)
       try replace HD := Zd (HD.out.below hal HD.out.lt)
       have HG : Hid (Blk (V.alloc (.cells #[.int .i64 0, .slice none 0 0, .slice none 0 0, .slice none 0 0] 87)) V.heap.size 87 [.int .i64 0, .slice none 0 0, .slice none 0 0, .slice none 0 0]) := Zd (blk_new rfl)
       have hggs : W1.heap.size <= V.heap.size := HB.out.size
       replace HB := Zd (btr HB.out hal)
       clear hal
       generalize V.alloc (.cells #[.int .i64 0, .slice none 0 0, .slice none 0 0, .slice none 0 0] 87) = V2 at *
       generalize V.heap.size = gs at *)
   clear V
   rename World => V
   try simp only [Nrq, Nrs]
  all_goals first | (have _x := HC; have _y := HW; have _z := HD; clear _x _y _z; refine tkHp 6 (.agg #[.int .i64 0, .slice (some ⟨gc, 0, none⟩) p p, .slice (some ⟨gw, 0, none⟩) t t, .slice (some ⟨gd, 0, none⟩) t t]) rfl hHeld ?_; have T6 := trivial) | skip
  all_goals first
   | (refine wpAnyH_ready (rs := [1]) (by decide +kernel) (by simp) ?_; refine AllReadyH.cons rfl (fun K hK => ?_) AllReadyH.nil)
   | (refine wpAnyH_ready (rs := [3]) (by decide +kernel) (by simp) ?_; refine AllReadyH.cons rfl (fun K hK => ?_) AllReadyH.nil)
   | (refine wpAnyH_ready (rs := [5]) (by decide +kernel) (by simp) ?_; refine AllReadyH.cons rfl (fun K hK => ?_) AllReadyH.nil)
   | (refine wpAnyH_ready (rs := [7]) (by decide +kernel) (by simp) ?_; refine AllReadyH.cons rfl (fun K hK => ?_) AllReadyH.nil)
  all_goals
   rw [if_pos (by rfl)]
   go_simp
   first
    | (refine hK.out _ (V.alloc (.cells (rows (List.replicate p Chn.none)).toArray 124)) trivial (fun hHeld => ?_)
       clear hK K
       have hal := (Below.refl V.heap.size V).alloc (Nat.le_refl _) (.cells (rows (List.replicate p Chn.none)).toArray 124)
       try replace HW := Zd (HW.out.below hal HW.out.lt)
       try replace HD := Zd (HD.out.below hal HD.out.lt)
       try replace HG := Zd (HG.out.below hal HG.out.lt)
       have HC : Hid (Blk (V.alloc (.cells (rows (List.replicate p Chn.none)).toArray 124)) V.heap.size 124 (rows (List.replicate p Chn.none))) := Zd (blk_new rfl)
       have hggc : W1.heap.size <= V.heap.size := HB.out.size
       replace HB := Zd (btr HB.out hal)
       clear hal
       generalize V.alloc (.cells (rows (List.replicate p Chn.none)).toArray 124) = V2 at *
       generalize V.heap.size = gc at *)
    | (refine hK.out _ (V.alloc (.cells (rows (List.replicate t Wtr.none)).toArray 128)) trivial (fun hHeld => ?_)
       clear hK K
       have hal := (Below.refl V.heap.size V).alloc (Nat.le_refl _) (.cells (rows (List.replicate t Wtr.none)).toArray 128)
       try replace HC := Zd (HC.out.below hal HC.out.lt)
       try replace HD := Zd (HD.out.below hal HD.out.lt)
       try replace HG := Zd (HG.out.below hal HG.out.lt)
       have HW : Hid (Blk (V.alloc (.cells (rows (List.replicate t Wtr.none)).toArray 128)) V.heap.size 128 (rows (List.replicate t Wtr.none))) := Zd (blk_new rfl)
       have hggw : W1.heap.size <= V.heap.size := HB.out.size
       replace HB := Zd (btr HB.out hal)
       clear hal
       generalize V.alloc (.cells (rows (List.replicate t Wtr.none)).toArray 128) = V2 at *
       generalize V.heap.size = gw at *)
    | (refine hK.out _ (V.alloc (.cells (rows (List.replicate t Resr.none)).toArray 42)) trivial (fun hHeld => ?_)
       clear hK K
       have hal := (Below.refl V.heap.size V).alloc (Nat.le_refl _) (.cells (rows (List.replicate t Resr.none)).toArray 42)
       try replace HC := Zd (HC.out.below hal HC.out.lt)
       try replace HW := Zd (HW.out.below hal HW.out.lt)
       try replace HG := Zd (HG.out.below hal HG.out.lt)
       have HD : Hid (Blk (V.alloc (.cells (rows (List.replicate t Resr.none)).toArray 42)) V.heap.size 42 (rows (List.replicate t Resr.none))) := Zd (blk_new rfl)
       have hggd : W1.heap.size <= V.heap.size := HB.out.size
       replace HB := Zd (btr HB.out hal)
       clear hal
       generalize V.alloc (.cells (rows (List.replicate t Resr.none)).toArray 42) = V2 at *
       generalize V.heap.size = gd at *)
    | (refine hK.out _ (V.alloc (.cells #[.int .i64 0, .slice none 0 0, .slice none 0 0, .slice none 0 0] 87)) trivial (fun hHeld => ?_)
       clear hK K
       have hal := (Below.refl V.heap.size V).alloc (Nat.le_refl _) (.cells #[.int .i64 0, .slice none 0 0, .slice none 0 0, .slice none 0 0] 87)
       try replace HC := Zd (HC.out.below hal HC.out.lt)
       try replace HW := Zd (HW.out.below hal HW.out.lt)
       try replace HD := Zd (HD.out.below hal HD.out.lt)
       have HG : Hid (Blk (V.alloc (.cells #[.int .i64 0, .slice none 0 0, .slice none 0 0, .slice none 0 0] 87)) V.heap.size 87 [.int .i64 0, .slice none 0 0, .slice none 0 0, .slice none 0 0]) := Zd (blk_new rfl)
       have hggs : W1.heap.size <= V.heap.size := HB.out.size
       replace HB := Zd (btr HB.out hal)
       clear hal
       generalize V.alloc (.cells #[.int .i64 0, .slice none 0 0, .slice none 0 0, .slice none 0 0] 87) = V2 at *
       generalize V.heap.size = gs at *)
   clear V
   rename World => V
   try simp only [Nrq, Nrs]
  all_goals first | (have _x := T6) | (refine tkHp 6 (.agg #[.int .i64 0, .slice (some ⟨gc, 0, none⟩) p p, .slice (some ⟨gw, 0, none⟩) t t, .slice (some ⟨gd, 0, none⟩) t t]) rfl hHeld ?_)
  all_goals
   have s0 := HG.out.cell (i := 0) rfl
   have s1 := HG.out.cell (i := 1) rfl
   have s2 := HG.out.cell (i := 2) rfl
   have s3 := HG.out.cell (i := 3) rfl
   have z0 := HG.out.frozen 0
   have z1 := HG.out.frozen 1
   have z2 := HG.out.frozen 2
   have z3 := HG.out.frozen 3
   have HE := Zd (StaSt.made HC.out HW.out HD.out HG.out hggc hggw hggd hggs hp8 ht64)
   have HBE := Zd (below4 HB.out (g := gs) hggs (i := 0) (j := 1) (k := 2) (l := 3) (u := .int .i64 0) (v := .slice (some ⟨gc, 0, none⟩) p p) (x := .slice (some ⟨gw, 0, none⟩) t t) (y := .slice (some ⟨gd, 0, none⟩) t t))
   refine wpAnyH_ready (rs := [8]) (by kernel_rfl) (by simp) ?_
   refine AllReadyH.cons rfl (fun K hK => ?_) AllReadyH.nil
   rw [if_pos (by rfl)]
   go_simp
   try go_wp2_with fail
   refine hK.out _ _ trivial (fun hHeld => ?_)
   clear hK K hHeld
   try simp only [Nrq, Nrs]
   refine wpAnyH_done (by kernel_rfl) ?_ _
   go_wp2_with fail
   go_meet
   refine sta_end start HE.out HBE.out ?_
   omega
 case rest =>
  obtain ⟨g, gc, gw, gd, rfl, hst, hgz, hbx⟩ := hcut
  have HS0 := Zd hst
  have HB0 := Zd hbx
  have HYX := Zd (HY1.out.below hbx HY1.out.lt)
  have HZX := Zd (HZ1.out.below hbx HZ1.out.lt)
  have y10 := HYX.out.cell (i := 10) rfl
  clear hst hbx
  go_upto_region 4 with fail
  clear y10
  go_loopw [26] (fun i wr => ∃ k : Nat, k <= n /\ i = .int .i64 k /\ StaSt W1.heap.size g wr ⟨0, some ⟨gc, 0, none⟩, p, staL start p k, some ⟨gw, 0, none⟩, t, List.replicate t Wtr.none, some ⟨gd, 0, none⟩, t, List.replicate t Resr.none⟩ /\ Below W1.heap.size W1 wr) (fun i _ => n - (intOf i).toNat)
  case atStart => exact ⟨0, Nat.zero_le _, rfl, HS0.out, HB0.out⟩
  case round =>
   obtain ⟨k, hk, rfl, hst, hb⟩ := hrel
   have HS := Zd hst
   have HB := Zd hb
   clear hst hb HS0 HB0
   have s0 : wr.cell? ⟨g, 0, none⟩ = some (.int .i64 0) := HS.out.box.cell (i := 0) rfl
   have s1 : wr.cell? ⟨g, 1, none⟩ = some (.slice (some ⟨gc, 0, none⟩) p p) := by
    have := HS.out.box.cell (i := 1) rfl
    simpa only [staL_len] using this
   have s2 : wr.cell? ⟨g, 2, none⟩ = some (.slice (some ⟨gw, 0, none⟩) t t) := by
    have := HS.out.box.cell (i := 2) rfl
    simpa only [List.length_replicate] using this
   have s3 : wr.cell? ⟨g, 3, none⟩ = some (.slice (some ⟨gd, 0, none⟩) t t) := by
    have := HS.out.box.cell (i := 3) rfl
    simpa only [List.length_replicate] using this
   by_cases hlt : k < n
   . obtain ⟨b, o, hsa, hbl, hc⟩ := (HRD.out.below ((HB1.out.trans (HB.out.mono HB1.out.size)))).at_ (by rw [ints_length, HN.out]; omega)
     subst hsa
     have hcell : wr.cell? ⟨b, o + k, none⟩ = some (.int .i64 (start.getD k 0)) := hc k _ (ints_at (by rw [HN.out]; exact hlt))
     have HC := Zd HS.out.own.cr
     have HKC : Hid (k < (staL start p k).length) := Zd (by rw [staL_len]; omega)
     obtain ⟨c0, c1, c2, c3, c4⟩ := chn_cells (k := k) (x := (staL start p k).getD k Chn.none) (own_cellAt HC.out) HKC.out rfl
     simp only [Nat.zero_add] at c0 c1 c2 c3 c4
     generalize (staL start p k).getD k Chn.none = x at *
     have cf := own_free HC.out
     have q0 : (0 : Int) <= (k : Int) := by omega
     have q1 : (k : Int) < (p : Int) := by omega
     have q2 : (k : Int) < (n : Int) := by omega
     have n1 : g ≠ gc := by have h1 := own_blk_neL HC.out HS.out.box (by decide); simpa [Value.ownBlock] using h1
     have n1' := n1.symm
     have HXC := Zd (HS.out.store rfl HKC.out (mkC (start.getD k 0)) (own_nil _ _ _ _))
     have HS1 : Hid (StaSt W1.heap.size g (((((wr.setCell ⟨gc, k * 5, none⟩ (.int .i64 1)).setCell ⟨gc, k * 5 + 1, none⟩ (.int .i64 (start.getD k 0))).setCell ⟨gc, k * 5 + 2, none⟩ (.bool true)).setCell ⟨gc, k * 5 + 3, none⟩ (.bool false)).setCell ⟨gc, k * 5 + 4, none⟩ (.slice none 0 0)) ⟨0, some ⟨gc, 0, none⟩, p, staL start p (k + 1), some ⟨gw, 0, none⟩, t, List.replicate t Wtr.none, some ⟨gd, 0, none⟩, t, List.replicate t Resr.none⟩) := Zd (by
      have := HXC.out.1
      simp only [staL_set] at this
      exact this)
     have HB2 : Hid (Below W1.heap.size wr (((((wr.setCell ⟨gc, k * 5, none⟩ (.int .i64 1)).setCell ⟨gc, k * 5 + 1, none⟩ (.int .i64 (start.getD k 0))).setCell ⟨gc, k * 5 + 2, none⟩ (.bool true)).setCell ⟨gc, k * 5 + 3, none⟩ (.bool false)).setCell ⟨gc, k * 5 + 4, none⟩ (.slice none 0 0))) := Zd HXC.out.2
     clear hc HXC HKC HC
     generalize start.getD k 0 = v at *
     go_wp2_with fail
     go_roundw
     case measure => simp [intOf]; omega
     case rel => exact ⟨k + 1, by omega, by go_num, HS1.out, HB.out.trans HB2.out⟩
   . obtain rfl : k = n := by omega
     have HO := Zd HS.out.own
     have HZE := Zd (HZ1.out.below HB.out HZ1.out.lt)
     have z0 := HZE.out.cell (i := 0) rfl
     have z0f := HZE.out.frozen 0
     have z1 := HZE.out.cell (i := 1) rfl
     have z1f := HZE.out.frozen 1
     have z2 := HZE.out.cell (i := 2) rfl
     have z2f := HZE.out.frozen 2
     have z3 := HZE.out.cell (i := 3) rfl
     have z3f := HZE.out.frozen 3
     have n1 : g ≠ w.heap.size + 1 := by omega
     have n1' := n1.symm
     go_wp2_with fail
     refine bodyPost_ret (v := .agg #[.int .i64 0, .slice (some ⟨gc, 0, none⟩) p p, .slice (some ⟨gw, 0, none⟩) t t, .slice (some ⟨gd, 0, none⟩) t t]) (ret_cell (g := w.heap.size + 1) rfl rfl (hal_load4 (put4 HZE.out))) rfl ?_
     refine ⟨⟨0, some ⟨gc, 0, none⟩, p, staL start p k, some ⟨gw, 0, none⟩, t, List.replicate t Wtr.none, some ⟨gd, 0, none⟩, t, List.replicate t Resr.none⟩, by unfold halV; simp only [staL_len, List.length_replicate], by unfold Hal.p; simp only [List.map_replicate]; rfl, ?_, ?_⟩
     . exact ((((HO.out.lower (show w.heap.size <= W1.heap.size from HB1.out.size)).boxedH (i := 0) HZE.out).boxedH (i := 1) (HZE.out.set_ 0 _)).boxedH (i := 2) ((HZE.out.set_ 0 _).set_ 1 _)).boxedH (i := 3) (((HZE.out.set_ 0 _).set_ 1 _).set_ 2 _)
     . exact below4 (HB1.out.trans (HB.out.mono HB1.out.size)) (g := w.heap.size + 1) (by omega) (i := 0) (j := 1) (k := 2) (l := 3) (u := .int .i64 0) (v := .slice (some ⟨gc, 0, none⟩) p p) (x := .slice (some ⟨gw, 0, none⟩) t t) (y := .slice (some ⟨gd, 0, none⟩) t t)
end Go.Proofs.YtieglgahfeecbaaGreatDoor
