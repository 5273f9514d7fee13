/- chans: a value is sent: walked. -/
import Derived.Deep.MidRow
import Derived.Test.YtieglgahfeecbaaGreatDoorP3
import Derived.Test.YtieglgahfeecbaaGreatDoorP4
import Derived.Test.YtieglgahfeecbaaGreatDoorP5
import Derived.Test.YtieglgahfeecbaaGreatDoorP14
import Derived.Test.YtieglgahfeecbaaGreatDoorP17
set_option maxHeartbeats 64000000
set_option maxRecDepth 100000
namespace Go.Proofs.YtieglgahfeecbaaGreatDoor
open Go.RowKit Go.Sort
attribute [local go_sem ↓] Go.wp_at_zero Go.wp_at_succ
theorem RetFour.own {c : ChP} {pl : List WtP} {code : Int} {tl : List TldP} {w w' : World} {e : Ending} (h : RetFour c pl code tl w e w') :
  ∃ (x : Chn) (A : Option Addr) (d : Nat) (l : List Wtr) (TA : Option Addr) (tc : Nat), e = .returned (.tuple #[chnV x, .slice A l.length d, .int .i64 code, .slice TA tl.length tc]) /\ x.p = c /\ OwnBuf w.heap.size w' x /\
  l.map Wtr.p = pl /\ OwnWts w.heap.size w' A l.length d l /\ w'.ownsRow w.heap.size 233 5 (.slice TA tl.length tc) tl.length (rows tl) /\ Below w.heap.size w w' := by
 obtain ⟨x, A, d, l, TA, tc, h1, h2, h3, h4, h5, h6, h7⟩ := h
 have hl : pl.length = l.length := by rw [<- h4, List.length_map]
 rw [hl] at h1 h5
 exact ⟨x, A, d, l, TA, tc, h1, h2, h3, h4, h5, h6, h7⟩
def RetShutO (c : ChP) (handle : Int) (pl : List WtP) (w : World) (e : Ending) (w' : World) : Prop :=
 ∃ (tl : List TldP) (x : Chn) (A : Option Addr) (d : Nat) (l : List Wtr) (TA : Option Addr) (tc : Nat), IsTold c handle pl tl /\ e = .returned (.tuple #[chnV x, .slice A l.length d, .int .i64 (shutE c), .slice TA tl.length tc]) /\ x.p = shutC c /\ OwnBuf w.heap.size w' x /\
  l.map Wtr.p = shutW c handle pl /\ OwnWts w.heap.size w' A l.length d l /\ w'.ownsRow w.heap.size 233 5 (.slice TA tl.length tc) tl.length (rows tl) /\ Below w.heap.size w w'
theorem cShut_own (x : Chn) (handle : Int) (A : Option Addr) (n c : Nat) (l : List Wtr) (w : World) (h : WtsAt w A n l) (hx : ChAt w x) :
  Calls Tryz.prog 200 #[chnV x, .int .i64 handle, .slice A n c] w (RetShutO x.p handle (l.map Wtr.p) w) :=
 (cShut_any x handle A n c l w h hx).mono fun e w' hr => by
   obtain ⟨tl, ht, hr⟩ := hr
   obtain ⟨y, A, d, l, TA, tc, h1, h2⟩ := hr.own
   exact ⟨tl, y, A, d, l, TA, tc, ht, h1, h2⟩
theorem hShut_any (base g : Nat) (h : Hal) (c : Cfg) (t n handle : Int) (w : World) (H : HSt base g w h c t n) (hf : HalFew h) :
  Calls Tryz.prog 174 #[.pointer (some ⟨g, 0, none⟩), .int .i64 handle] w (RetStK base g h c t n (shutH h.p handle).1 (shutH h.p handle).2 w) := by
 have HZ := Zd (Blk.new w 42 [.int .i64 0, .int .i64 0, .int .i64 0, .int .i64 0])
 have HA := Zd ((Below.refl w.heap.size w).alloc (Nat.le_refl _) (.cells #[.int .i64 0, .int .i64 0, .int .i64 0, .int .i64 0] 42))
 have HH := Zd (fun W (hb : Below w.heap.size w W) => H.below hb)
 have HF := Zd hf
 have HO := Zd H
 have HFI := Zd (fun W (hb : Below w.heap.size w W) => hFind_any h handle W (H.below hb |>.own.cr |> own_rd) hf.cf)
 have hgl := H.lt
 have hnw := H.new
 have HRV : Hid (shutH h.p handle = shutH h.p handle) := Zd rfl
 generalize hR : shutH h.p handle = R at *
 have HR0 := Zd hR
 clear H hf hR HRV
 have hg1 : g ≠ w.heap.size := Nat.ne_of_lt hgl
 obtain ⟨s0, s1, s2, s3⟩ := (HH.out _ HA.out).hal
 have z0 := HZ.out.cell (i := 0) rfl
 have z0f := HZ.out.frozen 0
 have z1 := HZ.out.cell (i := 1) rfl
 have z1f := HZ.out.frozen 1
 have z2 := HZ.out.cell (i := 2) rfl
 have z2f := HZ.out.frozen 2
 have z3 := HZ.out.cell (i := 3) rfl
 have z3f := HZ.out.frozen 3
 unfold halV at HFI
 go_enter Tryz.func174, Tryz.ntmps174
 go_upto_region 1 with fail
 generalize w.alloc (.cells #[.int .i64 0, .int .i64 0, .int .i64 0, .int .i64 0] 42) = W0 at *
 go_upto_region 2 with (go_at_call 194
                        refine (HFI.out _ HA.out).mono ?_
                        rintro er w1 ⟨rfl, hb1⟩
                        have HB1 := Zd (btr HA.out hb1)
                        have HZ1 := Zd (HZ.out.below hb1 HZ.out.lt)
                        have HS1 := Zd (HH.out _ HB1.out)
                        have HL1 := Zd (show w.heap.size < w1.heap.size by have := HZ.out.lt; have := hb1.size; omega)
                        clear hb1 s0 s1 s2 s3 z0 z0f z1 z1f z2 z2f z3 z3f)
 cases hfb : findB (h.chans.map Chn.p) handle
 . have HR : Hid (R = (h.p, rC 8)) := Zd (by rw [<- HR0.out]; unfold shutH; rw [if_pos (show findB h.p.chans handle = false from hfb)])
   clear HR0
   generalize findI (h.chans.map Chn.p) handle = fi at *
   have z0 := HZ1.out.cell (i := 0) rfl
   have z0f := HZ1.out.frozen 0
   have z1 := HZ1.out.cell (i := 1) rfl
   have z1f := HZ1.out.frozen 1
   have z2 := HZ1.out.cell (i := 2) rfl
   have z2f := HZ1.out.frozen 2
   have z3 := HZ1.out.cell (i := 3) rfl
   have z3f := HZ1.out.frozen 3
   go_wp2_with fail
   refine bodyPost_ret (v := rsV ⟨0, 0, 8, 0⟩) (ret_cell (g := w.heap.size) rfl rfl (rsl_load (r := ⟨0, 0, 8, 0⟩) (put4 HZ1.out))) rfl ?_
   rw [HR.out]
   have hb4 := below4 HB1.out (g := w.heap.size) (Nat.le_refl _) (i := 0) (j := 1) (k := 2) (l := 3) (u := .int .i64 0) (v := .int .i64 0) (x := .int .i64 8) (y := .int .i64 0)
   exact ⟨h, rfl, rfl, HH.out _ hb4, hb4.mono (by omega), HKeeps.of hb4 (Nat.le_refl _), .refl h⟩
 . obtain ⟨k, hk1, hk2, hk3, hk4, hu5, hu6⟩ := find_yes hfb
   clear hu5 hu6
   have HRE := Zd (fun (tl : List TldP) (ht : IsTold (h.chans.getD k Chn.none).p handle (h.waits.map Wtr.p) tl) => HR0.out.symm.trans (shutH_eq h.ticket (h.chans.map Chn.p) (h.waits.map Wtr.p) h.done hfb hk2 (by rw [List.length_map]; exact hk3) (tl := tl) (by rw [chP_getD]; exact ht)))
   have HXA := Zd (fun W (hb : Below w.heap.size w W) => ((HH.out W hb).own.at_ HF.out).cb (h.chans.getD k Chn.none) (mem_getD hk3))
   have HSH := Zd (fun W (hb : Below w.heap.size w W) => cShut_own (h.chans.getD k Chn.none) handle h.WA h.waits.length h.wc h.waits W ((HH.out W hb).own.at_ HF.out).wr (HXA.out W hb))
   rw [chP_getD] at HRE
   rw [hk1]
   have HC := Zd HS1.out.own.cr
   obtain ⟨gc, hCA, hgc1, hgc2⟩ := own_some HC.out (by omega)
   rw [hCA] at HC
   obtain ⟨c0, c1, c2, c3, c4⟩ := chn_cells (k := k) (x := h.chans.getD k Chn.none) (own_cellAt HC.out) hk3 rfl
   simp only [Nat.zero_add] at c0 c1 c2 c3 c4
   obtain ⟨s0, s1, s2, s3⟩ := HS1.out.hal
   have HCA := Zd hCA
   rw [hCA] at s1
   have u0 : (0 : Int) <= (k : Int) := by omega
   have u1 : (k : Int) < (h.chans.length : Int) := by omega
   have gl1 : g < w1.heap.size := HS1.out.lt
   have HWL : Hid ((h.waits.map Wtr.p).length = h.waits.length) := Zd (by rw [List.length_map])
   have HK3 := Zd hk3
   clear hCA hk1 hk2 hfb hk3 hk4 HR0
   generalize hx : h.chans.getD k Chn.none = x at *
   have HX := Zd hx
   clear hx
   unfold chnV at HSH
   go_upto_region 4 with fail
   go_cut [7, 8, 9, 10] (fun s7 s8 s9 s10 wx => ∃ (gt : Nat) (y : Chn) (A : Option Addr) (d : Nat) (l : List Wtr) (TA : Option Addr) (tc : Nat) (tl : List TldP), s7 = .pointer (some ⟨gt, 0, none⟩) /\ s8 = .slice A l.length d /\ s9 = .int .i64 (shutE x.p) /\ s10 = .slice TA tl.length tc /\ IsTold x.p handle (h.waits.map Wtr.p) tl /\ y.p = shutC x.p /\ l.map Wtr.p = shutW x.p handle (h.waits.map Wtr.p) /\ w1.heap.size <= gt /\ Blk wx gt 124 y.cells /\ OwnBuf w1.heap.size wx y /\ OwnWts w1.heap.size wx A l.length d l /\ wx.ownsRow w1.heap.size 233 5 (.slice TA tl.length tc) tl.length (rows tl) /\ Below w1.heap.size w1 wx)
   case first =>
    have HSC : Hid (∀ W', Below w1.heap.size w1 W' -> (fun w' => w'.cell? ⟨g, 1, none⟩ = some (.slice (some ⟨gc, 0, none⟩) h.chans.length h.cc) /\ w'.cell? ⟨g, 2, none⟩ = some (.slice h.WA h.waits.length h.wc) /\ w'.cell? ⟨gc, k * 5, none⟩ = some (.int .i64 x.gen) /\ w'.cell? ⟨gc, k * 5 + 1, none⟩ = some (.int .i64 x.cap) /\ w'.cell? ⟨gc, k * 5 + 2, none⟩ = some (.bool x.used) /\ w'.cell? ⟨gc, k * 5 + 3, none⟩ = some (.bool x.closed) /\ w'.cell? ⟨gc, k * 5 + 4, none⟩ = some (.slice x.A x.buf.length x.c)) W') := Zd (fun W' hb => ⟨(hb.cell (p := ⟨g, 1, none⟩) gl1).trans s1, (hb.cell (p := ⟨g, 2, none⟩) gl1).trans s2, (hb.cell (p := ⟨gc, k * 5, none⟩) hgc2).trans c0, (hb.cell (p := ⟨gc, k * 5 + 1, none⟩) hgc2).trans c1, (hb.cell (p := ⟨gc, k * 5 + 2, none⟩) hgc2).trans c2, (hb.cell (p := ⟨gc, k * 5 + 3, none⟩) hgc2).trans c3, (hb.cell (p := ⟨gc, k * 5 + 4, none⟩) hgc2).trans c4⟩)
    refine wp_region_held_drew (S := fun w' => w'.cell? ⟨g, 1, none⟩ = some (.slice (some ⟨gc, 0, none⟩) h.chans.length h.cc) /\ w'.cell? ⟨g, 2, none⟩ = some (.slice h.WA h.waits.length h.wc) /\ w'.cell? ⟨gc, k * 5, none⟩ = some (.int .i64 x.gen) /\ w'.cell? ⟨gc, k * 5 + 1, none⟩ = some (.int .i64 x.cap) /\ w'.cell? ⟨gc, k * 5 + 2, none⟩ = some (.bool x.used) /\ w'.cell? ⟨gc, k * 5 + 3, none⟩ = some (.bool x.closed) /\ w'.cell? ⟨gc, k * 5 + 4, none⟩ = some (.slice x.A x.buf.length x.c)) (by kernel_rfl) (HSC.out _ (Below.refl w1.heap.size w1).drew) (fun hHeld => ?_)
    refine tkHp 0 (.pointer (some ⟨g, 0, none⟩)) rfl hHeld ?_
    refine tkHp 1 (.pointer (some ⟨g, 0, none⟩)) rfl hHeld ?_
    refine tkHp 2 (.pointer (some ⟨g, 0, none⟩)) rfl hHeld ?_
    refine tkHp 3 (.pointer (some ⟨g, 1, none⟩)) rfl hHeld ?_
    refine tkH 4 (.slice (some ⟨gc, 0, none⟩) h.chans.length h.cc) rfl (Or.inl ⟨by rfl, fun w hSw => by obtain ⟨h1, h2, h3, h4, h5, h6, h7⟩ := hSw; go_simp⟩) hHeld ?_
    refine tkHp 5 (.int .i64 (k : Int)) rfl hHeld ?_
    refine tkHp 6 (.pointer (some ⟨gc, k * 5, none⟩)) rfl hHeld ?_
    refine tkH 7 (.agg #[.int .i64 x.gen, .int .i64 x.cap, .bool x.used, .bool x.closed, .slice x.A x.buf.length x.c]) rfl (Or.inl ⟨by rfl, fun w hSw => by obtain ⟨h1, h2, h3, h4, h5, h6, h7⟩ := hSw; go_simp⟩) hHeld ?_
    refine tkHp 8 (.int .i64 handle) rfl hHeld ?_
    refine tkHp 9 (.pointer (some ⟨g, 0, none⟩)) rfl hHeld ?_
    refine tkHp 10 (.pointer (some ⟨g, 0, none⟩)) rfl hHeld ?_
    refine tkHp 11 (.pointer (some ⟨g, 0, none⟩)) rfl hHeld ?_
    refine tkHp 12 (.pointer (some ⟨g, 2, none⟩)) rfl hHeld ?_
    refine tkH 13 (.slice h.WA h.waits.length h.wc) rfl (Or.inl ⟨by rfl, fun w hSw => by obtain ⟨h1, h2, h3, h4, h5, h6, h7⟩ := hSw; go_simp⟩) hHeld ?_
    try simp only [Nrq, Nrs]
    refine wpAnyH_ready (rs := [14, 20]) (by kernel_rfl) (by simp) ?_
    refine AllReadyH.cons rfl (fun K hK => ?_) (AllReadyH.cons rfl (fun K hK => ?_) AllReadyH.nil)
    . rw [if_pos (by rfl)]
      simp only [Nrq]
      go_simp
      refine (HSH.out w1.drew (HB1.out.drew)).mono ?_
      rintro er w5 ⟨tl, y, A, d, l, TA, tc, htl, rfl, hyp, hyb, hlm, hlw, htd, hb5'⟩
      have hb5 : Below w1.heap.size w1 w5 := ⟨hb5'.os, hb5'.tape, hb5'.output, hb5'.size, hb5'.block⟩
      unfold chnV
      go_wp2_with fail
      refine hK.out _ _ (HSC.out _ hb5) (fun hHeld => ?_)
      clear hK K
      try simp only [Nrq, Nrs]
      refine tkHp 15 (.tuple #[.agg #[.int .i64 y.gen, .int .i64 y.cap, .bool y.used, .bool y.closed, .slice y.A y.buf.length y.c], .slice A l.length d, .int .i64 (shutE x.p), .slice TA tl.length tc]) rfl hHeld ?_
      refine tkHp 16 (.agg #[.int .i64 y.gen, .int .i64 y.cap, .bool y.used, .bool y.closed, .slice y.A y.buf.length y.c]) rfl hHeld ?_
      refine tkHp 17 (.slice A l.length d) rfl hHeld ?_
      refine tkHp 18 (.int .i64 (shutE x.p)) rfl hHeld ?_
      refine tkHp 19 (.slice TA tl.length tc) rfl hHeld ?_
      try simp only [Nrq, Nrs]
      refine wpAnyH_ready (rs := [20]) (by kernel_rfl) (by simp) ?_
      refine AllReadyH.cons rfl (fun K hK => ?_) AllReadyH.nil
      rw [if_pos (by rfl)]
      go_simp
      have HA5 := Zd (fun o => (Below.refl w5.heap.size w5).alloc (Nat.le_refl _) o)
      refine hK.out _ _ (HSC.out _ (hb5.trans ((HA5.out _).mono hb5.size))) (fun hHeld => ?_)
      clear hK K
      try simp only [Nrq, Nrs]
      refine wpAnyH_ready (rs := [21]) (by kernel_rfl) (by simp) ?_
      refine AllReadyH.cons rfl (fun K hK => ?_) AllReadyH.nil
      rw [if_pos (by rfl)]
      go_simp
      refine hK.out _ _ (HSC.out _ (hb5.trans ((HA5.out _).mono hb5.size))) (fun hHeld => ?_)
      clear hK K
      try simp only [Nrq, Nrs]
      refine tkHp 22 (.slice A l.length d) rfl hHeld ?_
      refine tkHp 23 (.int .i64 (shutE x.p)) rfl hHeld ?_
      refine tkHp 24 (.slice TA tl.length tc) rfl hHeld ?_
      try simp only [Nrq, Nrs]
      clear hHeld
      refine wpAnyH_done (by kernel_rfl) ?_ _
      go_wp2_with fail
      go_meet
      exact ⟨w5.heap.size, y, A, d, l, TA, tc, tl, rfl, rfl, rfl, rfl, htl, hyp, hlm, hb5.size, blk_new rfl, OwnBuf.below hyb (HA5.out (.cells #[.int .i64 y.gen, .int .i64 y.cap, .bool y.used, .bool y.closed, .slice y.A y.buf.length y.c] 124)), hlw.below (HA5.out _), own_below htd (HA5.out _), hb5.trans ((HA5.out _).mono hb5.size)⟩
    . rw [if_pos (by rfl)]
      go_simp
      have HA := Zd ((Below.refl w1.heap.size w1).alloc (Nat.le_refl _) (.cells #[.int .i64 0, .int .i64 0, .bool false, .bool false, .slice none 0 0] 124))
      have HBk : Hid (Blk (w1.alloc (.cells #[.int .i64 0, .int .i64 0, .bool false, .bool false, .slice none 0 0] 124)) w1.heap.size 124 [.int .i64 0, .int .i64 0, .bool false, .bool false, .slice none 0 0]) := Zd (blk_new rfl)
      refine hK.out _ _ (HSC.out _ HA.out.drew) (fun hHeld => ?_)
      clear hK K
      try simp only [Nrq, Nrs]
      refine wpAnyH_ready (rs := [14]) (by kernel_rfl) (by simp) ?_
      refine AllReadyH.cons rfl (fun K hK => ?_) AllReadyH.nil
      rw [if_pos (by rfl)]
      simp only [Nrq]
      go_simp
      refine (HSH.out (w1.alloc (.cells #[.int .i64 0, .int .i64 0, .bool false, .bool false, .slice none 0 0] 124)).drew (HB1.out.trans (HA.out.drew.mono HB1.out.size))).mono ?_
      rintro er w5 ⟨tl, y, A, d, l, TA, tc, htl, rfl, hyp, hyb, hlm, hlw, htd, hb5'⟩
      have hb5 : Below (w1.alloc (.cells #[.int .i64 0, .int .i64 0, .bool false, .bool false, .slice none 0 0] 124)).heap.size (w1.alloc (.cells #[.int .i64 0, .int .i64 0, .bool false, .bool false, .slice none 0 0] 124)) w5 := ⟨hb5'.os, hb5'.tape, hb5'.output, hb5'.size, hb5'.block⟩
      unfold chnV
      have hb6 := HA.out.trans (hb5.mono HA.out.size)
      have HX := Zd (HBk.out.below hb5 HBk.out.lt)
      go_wp2_with fail
      refine hK.out _ _ (HSC.out _ hb6) (fun hHeld => ?_)
      clear hK K
      try simp only [Nrq, Nrs]
      refine tkHp 15 (.tuple #[.agg #[.int .i64 y.gen, .int .i64 y.cap, .bool y.used, .bool y.closed, .slice y.A y.buf.length y.c], .slice A l.length d, .int .i64 (shutE x.p), .slice TA tl.length tc]) rfl hHeld ?_
      refine tkHp 16 (.agg #[.int .i64 y.gen, .int .i64 y.cap, .bool y.used, .bool y.closed, .slice y.A y.buf.length y.c]) rfl hHeld ?_
      refine tkHp 17 (.slice A l.length d) rfl hHeld ?_
      refine tkHp 18 (.int .i64 (shutE x.p)) rfl hHeld ?_
      refine tkHp 19 (.slice TA tl.length tc) rfl hHeld ?_
      try simp only [Nrq, Nrs]
      refine wpAnyH_ready (rs := [21]) (by kernel_rfl) (by simp) ?_
      refine AllReadyH.cons rfl (fun K hK => ?_) AllReadyH.nil
      rw [if_pos (by rfl)]
      have x0 := HX.out.cell (i := 0) rfl
      have x0f := HX.out.frozen 0
      have x1 := HX.out.cell (i := 1) rfl
      have x1f := HX.out.frozen 1
      have x2 := HX.out.cell (i := 2) rfl
      have x2f := HX.out.frozen 2
      have x3 := HX.out.cell (i := 3) rfl
      have x3f := HX.out.frozen 3
      have x4 := HX.out.cell (i := 4) rfl
      have x4f := HX.out.frozen 4
      go_simp
      refine hK.out _ _ (HSC.out _ (below5 hb6 (Nat.le_refl _))) (fun hHeld => ?_)
      clear hK K
      try simp only [Nrq, Nrs]
      refine tkHp 22 (.slice A l.length d) rfl hHeld ?_
      refine tkHp 23 (.int .i64 (shutE x.p)) rfl hHeld ?_
      refine tkHp 24 (.slice TA tl.length tc) rfl hHeld ?_
      try simp only [Nrq, Nrs]
      clear hHeld
      refine wpAnyH_done (by kernel_rfl) ?_ _
      clear x0 x0f x1 x1f x2 x2f x3 x3f x4 x4f
      go_wp2_with fail
      go_meet
      exact ⟨w1.heap.size, y, A, d, l, TA, tc, tl, rfl, rfl, rfl, rfl, htl, hyp, hlm, Nat.le_refl _, chn_put HX.out, own_put5 (own_lower hyb HA.out.size) HX.out (by decide), (hlw.lower HA.out.size).box5 HX.out (by decide) (by decide), own_put5 (own_lower htd HA.out.size) HX.out (by decide), below5 hb6 (Nat.le_refl _)⟩
   case rest =>
    obtain ⟨gt, y, A, d, l, TA, tc, tl, rfl, rfl, rfl, rfl, htl, hyp, hlm, hgt, hbk, hyb, hlw, htd, hbc⟩ := hcut
    have HTL := Zd htl
    have HYP := Zd hyp
    have HLM := Zd hlm
    have HBK := Zd hbk
    have HYB := Zd (hyb.lower (show base <= w1.heap.size by omega))
    have HLW := Zd (hlw.lower (show base <= w1.heap.size by omega))
    have HTD := Zd htd
    have HBC := Zd (btr HB1.out hbc)
    have HSX := Zd (HH.out _ HBC.out)
    have HZX := Zd (HZ1.out.below hbc HZ1.out.lt)
    have HCX := Zd (own_below HC.out hbc)
    have HR1 := Zd (HRE.out tl htl)
    have HFEW := Zd (show tl.length <= 1048576 by have := told_few htl; have := HWL.out; have := HF.out.wf; omega)
    clear htl hyp hlm hbk hyb hlw htd s0 s1 s2 s3 c0 c1 c2 c3 c4 HSH HXA HRE
    obtain ⟨s0, s1, s2, s3⟩ := HSX.out.hal
    have s2f := HSX.out.box.frozen 2
    rw [HCA.out] at s1
    obtain ⟨c0, c1, c2, c3, c4⟩ := chn_cells (k := k) (x := x) (own_cellAt HCX.out) HK3.out HX.out
    simp only [Nat.zero_add] at c0 c1 c2 c3 c4
    have cf := own_free HCX.out
    have y0 := HBK.out.cell (i := 0) rfl
    have y1 := HBK.out.cell (i := 1) rfl
    have y2 := HBK.out.cell (i := 2) rfl
    have y3 := HBK.out.cell (i := 3) rfl
    have y4 := HBK.out.cell (i := 4) rfl
    have n1 : g ≠ gc := by have h1 := own_blk_neL HCX.out HSX.out.box (by decide); simpa [Value.ownBlock] using h1
    have n1' := n1.symm
    have n2 : gt ≠ gc := by omega
    have n2' := n2.symm
    have n3 : gt ≠ g := by omega
    have n3' := n3.symm
    have hcn : w1.heap.size <= wc.heap.size := hbc.size
    clear hbc
    go_upto_region 5 with fail
    go_region
    have HXC := Zd (HSX.out.setChan HCA.out HK3.out y HYB.out)
    have HXW := Zd (HXC.out.1.setWaits (HLW.out.sets HCX.out (by decide) (by decide) (k * 5) (Chn.cells y)))
    have HS6 : Hid (HSt base g ((((((wc.setCell ⟨gc, k * 5, none⟩ (.int .i64 y.gen)).setCell ⟨gc, k * 5 + 1, none⟩ (.int .i64 y.cap)).setCell ⟨gc, k * 5 + 2, none⟩ (.bool y.used)).setCell ⟨gc, k * 5 + 3, none⟩ (.bool y.closed)).setCell ⟨gc, k * 5 + 4, none⟩ (.slice y.A y.buf.length y.c)).setCell ⟨g, 2, none⟩ (.slice A l.length d)) ⟨h.ticket, h.CA, h.cc, h.chans.set k y, A, d, l, h.DA, h.dc, h.done⟩ c t n) := Zd HXW.out.1
    have HB6 : Hid (Below base wc ((((((wc.setCell ⟨gc, k * 5, none⟩ (.int .i64 y.gen)).setCell ⟨gc, k * 5 + 1, none⟩ (.int .i64 y.cap)).setCell ⟨gc, k * 5 + 2, none⟩ (.bool y.used)).setCell ⟨gc, k * 5 + 3, none⟩ (.bool y.closed)).setCell ⟨gc, k * 5 + 4, none⟩ (.slice y.A y.buf.length y.c)).setCell ⟨g, 2, none⟩ (.slice A l.length d))) := Zd (HXC.out.2.trans HXW.out.2)
    have HT6 : Hid (((((((wc.setCell ⟨gc, k * 5, none⟩ (.int .i64 y.gen)).setCell ⟨gc, k * 5 + 1, none⟩ (.int .i64 y.cap)).setCell ⟨gc, k * 5 + 2, none⟩ (.bool y.used)).setCell ⟨gc, k * 5 + 3, none⟩ (.bool y.closed)).setCell ⟨gc, k * 5 + 4, none⟩ (.slice y.A y.buf.length y.c)).setCell ⟨g, 2, none⟩ (.slice A l.length d)).ownsRow w1.heap.size 233 5 (.slice TA tl.length tc) tl.length (rows tl)) := Zd (own_ty (own_sets HTD.out HCX.out (by decide) (k * 5) (Chn.cells y)) HXC.out.1.box (by decide) 2 _)
    have HZ6 : Hid (Blk ((((((wc.setCell ⟨gc, k * 5, none⟩ (.int .i64 y.gen)).setCell ⟨gc, k * 5 + 1, none⟩ (.int .i64 y.cap)).setCell ⟨gc, k * 5 + 2, none⟩ (.bool y.used)).setCell ⟨gc, k * 5 + 3, none⟩ (.bool y.closed)).setCell ⟨gc, k * 5 + 4, none⟩ (.slice y.A y.buf.length y.c)).setCell ⟨g, 2, none⟩ (.slice A l.length d)) w.heap.size 42 [.int .i64 0, .int .i64 0, .int .i64 0, .int .i64 0]) := Zd ((blk_sets HZX.out HCX.out (by decide) (k * 5) (Chn.cells y)).other (Ne.symm hg1) 2 _)
    have HQ6 : Hid (HKeeps g h w ((((((wc.setCell ⟨gc, k * 5, none⟩ (.int .i64 y.gen)).setCell ⟨gc, k * 5 + 1, none⟩ (.int .i64 y.cap)).setCell ⟨gc, k * 5 + 2, none⟩ (.bool y.used)).setCell ⟨gc, k * 5 + 3, none⟩ (.bool y.closed)).setCell ⟨gc, k * 5 + 4, none⟩ (.slice y.A y.buf.length y.c)).setCell ⟨g, 2, none⟩ (.slice A l.length d)).drew) := Zd ((((HKeeps.of HBC.out (Nat.le_refl _)).set5 (.inr (.inl (.inl (show Value.ownBlock (.slice h.CA h.chans.length h.cc) = some gc by rw [HCA.out]; rfl)))) _ _ _ _ _ _ _ _ _ _).set (.inl rfl) 2 _).drew)
    clear s0 s1 s2 s3 s2f c0 c1 c2 c3 c4 cf y0 y1 y2 y3 y4 n1 n1' n2 n2' n3 n3' HXC HXW
    replace HS6 : Hid (HSt base g ((((((wc.setCell ⟨gc, k * 5, none⟩ (.int .i64 y.gen)).setCell ⟨gc, k * 5 + 1, none⟩ (.int .i64 y.cap)).setCell ⟨gc, k * 5 + 2, none⟩ (.bool y.used)).setCell ⟨gc, k * 5 + 3, none⟩ (.bool y.closed)).setCell ⟨gc, k * 5 + 4, none⟩ (.slice y.A y.buf.length y.c)).setCell ⟨g, 2, none⟩ (.slice A l.length d)).drew ⟨h.ticket, h.CA, h.cc, h.chans.set k y, A, d, l, h.DA, h.dc, h.done⟩ c t n) := Zd (HS6.out.below (Below.refl _ _).drew)
    replace HB6 : Hid (Below base wc ((((((wc.setCell ⟨gc, k * 5, none⟩ (.int .i64 y.gen)).setCell ⟨gc, k * 5 + 1, none⟩ (.int .i64 y.cap)).setCell ⟨gc, k * 5 + 2, none⟩ (.bool y.used)).setCell ⟨gc, k * 5 + 3, none⟩ (.bool y.closed)).setCell ⟨gc, k * 5 + 4, none⟩ (.slice y.A y.buf.length y.c)).setCell ⟨g, 2, none⟩ (.slice A l.length d)).drew) := Zd HB6.out.drew
    replace HT6 : Hid (((((((wc.setCell ⟨gc, k * 5, none⟩ (.int .i64 y.gen)).setCell ⟨gc, k * 5 + 1, none⟩ (.int .i64 y.cap)).setCell ⟨gc, k * 5 + 2, none⟩ (.bool y.used)).setCell ⟨gc, k * 5 + 3, none⟩ (.bool y.closed)).setCell ⟨gc, k * 5 + 4, none⟩ (.slice y.A y.buf.length y.c)).setCell ⟨g, 2, none⟩ (.slice A l.length d)).drew.ownsRow w1.heap.size 233 5 (.slice TA tl.length tc) tl.length (rows tl)) := Zd (own_below HT6.out (Below.refl _ _).drew)
    replace HZ6 : Hid (Blk ((((((wc.setCell ⟨gc, k * 5, none⟩ (.int .i64 y.gen)).setCell ⟨gc, k * 5 + 1, none⟩ (.int .i64 y.cap)).setCell ⟨gc, k * 5 + 2, none⟩ (.bool y.used)).setCell ⟨gc, k * 5 + 3, none⟩ (.bool y.closed)).setCell ⟨gc, k * 5 + 4, none⟩ (.slice y.A y.buf.length y.c)).setCell ⟨g, 2, none⟩ (.slice A l.length d)).drew w.heap.size 42 [.int .i64 0, .int .i64 0, .int .i64 0, .int .i64 0]) := Zd (Blk.drew HZ6.out)
    generalize ((((((wc.setCell ⟨gc, k * 5, none⟩ (.int .i64 y.gen)).setCell ⟨gc, k * 5 + 1, none⟩ (.int .i64 y.cap)).setCell ⟨gc, k * 5 + 2, none⟩ (.bool y.used)).setCell ⟨gc, k * 5 + 3, none⟩ (.bool y.closed)).setCell ⟨gc, k * 5 + 4, none⟩ (.slice y.A y.buf.length y.c)).setCell ⟨g, 2, none⟩ (.slice A l.length d)).drew = W6 at *
    have hz6 := HZ6.out.lt
    have HBS := Zd (show base <= W6.heap.size by omega)
    have HTE : Hid (Calls Tryz.prog 201 #[.pointer (some ⟨g, 0, none⟩), .slice TA tl.length tc] W6 (fun e w' => e = .returned (.tuple #[]) /\ HSt base g w' ⟨h.ticket, h.CA, h.cc, h.chans.set k y, A, d, l, h.DA, h.dc, tellS h.done tl⟩ c t n /\ W6.grownBy w' (Value.ownBlock (.slice h.DA h.done.length h.dc)))) := Zd (hTell_any base g w1.heap.size _ c t n TA tc tl W6 HS6.out HF.out.df HT6.out HFEW.out)
    have HBB := Zd ((HBC.out.mono (by omega : base <= w.heap.size)).trans HB6.out)
    generalize hse : shutE x.p = se at *
    go_wp2_with (go_at_call 201
                 refine HTE.out.mono ?_
                 rintro er w7 ⟨rfl, hs7, hg7⟩
                 have HS7 := Zd hs7
                 have HZ7 := Zd (blk_grown HZ6.out hg7 (own_notIn HO.out.own.dr (Nat.le_refl _)))
                 have HB7 := Zd (HBB.out.grown hg7 HBS.out (own_ge HO.out.own.dr))
                 have HQ7 := Zd (HQ6.out.grown (Nat.le_of_lt hz6) (fun k hk => .inl (.inr hk)) hg7)
                 clear hs7 hg7
                 have z0 := HZ7.out.cell (i := 0) rfl
                 have z0f := HZ7.out.frozen 0
                 have z1 := HZ7.out.cell (i := 1) rfl
                 have z1f := HZ7.out.frozen 1
                 have z2 := HZ7.out.cell (i := 2) rfl
                 have z2f := HZ7.out.frozen 2
                 have z3 := HZ7.out.cell (i := 3) rfl
                 have z3f := HZ7.out.frozen 3)
    refine bodyPost_ret (v := rsV ⟨0, 0, se, 0⟩) (ret_cell (g := w.heap.size) rfl rfl (rsl_load (r := ⟨0, 0, se, 0⟩) (put4 HZ7.out))) rfl ?_
    rw [HR1.out]
    have hb8 := below4 (Below.refl w.heap.size w7) (g := w.heap.size) (Nat.le_refl _) (i := 0) (j := 1) (k := 2) (l := 3) (u := .int .i64 0) (v := .int .i64 0) (x := .int .i64 se) (y := .int .i64 0)
    have hfin := HS7.out.far4 (v0 := .int .i64 0) (v1 := .int .i64 0) (v2 := .int .i64 se) (v3 := .int .i64 0) (N := w.heap.size) (fun k hk => by
     simp only [tellS_len] at hk
     exact own_in HO.out.own.dr k hk) HZ7.out (Nat.le_refl _)
    refine ⟨_, rfl, ?_, hfin, HB7.out.trans (hb8.mono (by omega)), HQ7.out.set4 (.inr (.inr (Nat.le_refl _))) 0 1 2 3 _ _ _ _, ⟨rfl, rfl, by simp, rfl, rfl, by simp [tellS_len]⟩⟩
    show (⟨_, (h.chans.set k y).map Chn.p, l.map Wtr.p, _⟩ : HallP) = _
    rw [HLM.out, List.map_set, HYP.out]
theorem cReady_any (x : Chn) (handle : Int) (A : Option Addr) (n c : Nat) (l : List Wtr) (dir : Int) (w : World) (h : WtsAt w A n l) (hx : x.buf.length <= 1048576) :
  Calls Tryz.prog 197 #[chnV x, .int .i64 handle, .slice A n c, .int .i64 dir] w fun e w' => e = .returned (.bool (readyS x.p handle (l.map Wtr.p) dir)) /\ Below w.heap.size w w' := by
 obtain ⟨gen, cap, us, cl, BA, bc, bl⟩ := x
 simp only at hx
 have HV : Hid (readyS (Chn.p ⟨gen, cap, us, cl, BA, bc, bl⟩) handle (l.map Wtr.p) dir = (us && (if dir = 1 then cl || (firstS (l.map Wtr.p) 2 handle).isSome || decide ((bl.length : Int) < cap) else if dir = 2 then cl || (firstS (l.map Wtr.p) 1 handle).isSome || decide (0 < bl.length) else false))) := Zd rfl
 have HF1 := Zd (fun W (hW : WtsAt W A n l) => wFirst_any A n c l 1 handle W hW)
 have HF2 := Zd (fun W (hW : WtsAt W A n l) => wFirst_any A n c l 2 handle W hW)
 generalize readyS (Chn.p ⟨gen, cap, us, cl, BA, bc, bl⟩) handle (l.map Wtr.p) dir = R at *
 generalize firstS (l.map Wtr.p) 1 handle = o1 at *
 generalize firstS (l.map Wtr.p) 2 handle = o2 at *
 have HB0 := Zd ((Below.refl w.heap.size w).alloc (Nat.le_refl _) (.cells #[.int .i64 gen, .int .i64 cap, .bool us, .bool cl, .slice BA bl.length bc] 124))
 have HBX : Hid (Blk (w.alloc (.cells #[.int .i64 gen, .int .i64 cap, .bool us, .bool cl, .slice BA bl.length bc] 124)) w.heap.size 124 [.int .i64 gen, .int .i64 cap, .bool us, .bool cl, .slice BA bl.length bc]) := Zd (Blk.new w _ _)
 have HW0 := Zd (h.below HB0.out)
 clear h
 unfold chnV
 simp only
 generalize hm : bl.length = m at *
 clear hm
 have HEND : Hid (∀ w1, Below (w.alloc (.cells #[.int .i64 gen, .int .i64 cap, .bool us, .bool cl, .slice BA m bc] 124)).heap.size (w.alloc (.cells #[.int .i64 gen, .int .i64 cap, .bool us, .bool cl, .slice BA m bc] 124)) w1 -> Below w.heap.size w w1) := Zd (fun w1 h1 => HB0.out.trans (h1.mono HB0.out.size))
 cases us
 . go_enter Tryz.func197, Tryz.ntmps197
   go_wp2_with fail
   go_ret
   exact ⟨ret_bool (by rw [HV.out]; rfl), HB0.out⟩
 . by_cases d1 : dir = 1
   . have b1 : (dir == 1) = true := by simp [d1]
     have HV1 : Hid (R = (cl || o2.isSome || decide ((m : Int) < cap))) := Zd (by rw [HV.out, if_pos d1]; rfl)
     clear HV d1
     generalize o2.isSome = s2 at *
     cases cl
     . cases s2
       . cases hd : decide ((m : Int) < cap)
         all_goals
          go_enter Tryz.func197, Tryz.ntmps197
          go_wp2_with (refine (HF2.out _ HW0.out).mono ?_; rintro er w1 ⟨rfl, hb1⟩; have HX1 := Zd (HBX.out.below hb1 HBX.out.lt); have y1 := HX1.out.cell (i := 1) rfl; have y3 := HX1.out.cell (i := 3) rfl; have y4 := HX1.out.cell (i := 4) rfl; have HB1 := Zd hb1; clear hb1)
          go_ret
          exact ⟨ret_bool (by rw [HV1.out]; simp [hd]), HEND.out _ HB1.out⟩
       . go_enter Tryz.func197, Tryz.ntmps197
         go_wp2_with (refine (HF2.out _ HW0.out).mono ?_; rintro er w1 ⟨rfl, hb1⟩; have HX1 := Zd (HBX.out.below hb1 HBX.out.lt); have y1 := HX1.out.cell (i := 1) rfl; have y3 := HX1.out.cell (i := 3) rfl; have y4 := HX1.out.cell (i := 4) rfl; have HB1 := Zd hb1; clear hb1)
         go_ret
         exact ⟨ret_bool (by rw [HV1.out]; simp), HEND.out _ HB1.out⟩
     . go_enter Tryz.func197, Tryz.ntmps197
       go_wp2_with (refine (HF2.out _ HW0.out).mono ?_; rintro er w1 ⟨rfl, hb1⟩; have HX1 := Zd (HBX.out.below hb1 HBX.out.lt); have y1 := HX1.out.cell (i := 1) rfl; have y3 := HX1.out.cell (i := 3) rfl; have y4 := HX1.out.cell (i := 4) rfl; have HB1 := Zd hb1; clear hb1)
       go_ret
       exact ⟨ret_bool (by rw [HV1.out]; simp), HEND.out _ HB1.out⟩
   . have b1 : (dir == 1) = false := by simp [d1]
     by_cases d2 : dir = 2
     . have b2 : (dir == 2) = true := by simp [d2]
       have HV1 : Hid (R = (cl || o1.isSome || decide (0 < m))) := Zd (by rw [HV.out, if_neg d1, if_pos d2]; rfl)
       clear HV d1 d2
       generalize o1.isSome = s2 at *
       cases cl
       . cases s2
         . by_cases hd : 0 < m
           . have hdd : decide (0 < m) = true := decide_eq_true hd
             have hi : (0 : Int) < (m : Int) := by omega
             go_enter Tryz.func197, Tryz.ntmps197
             go_wp2_with (refine (HF1.out _ HW0.out).mono ?_; rintro er w1 ⟨rfl, hb1⟩; have HX1 := Zd (HBX.out.below hb1 HBX.out.lt); have y1 := HX1.out.cell (i := 1) rfl; have y3 := HX1.out.cell (i := 3) rfl; have y4 := HX1.out.cell (i := 4) rfl; have HB1 := Zd hb1; clear hb1)
             go_ret
             exact ⟨ret_bool (by rw [HV1.out]; simp [hd]), HEND.out _ HB1.out⟩
           . have hdd : decide (0 < m) = false := decide_eq_false hd
             have hi : ¬ (0 : Int) < (m : Int) := by omega
             go_enter Tryz.func197, Tryz.ntmps197
             go_wp2_with (refine (HF1.out _ HW0.out).mono ?_; rintro er w1 ⟨rfl, hb1⟩; have HX1 := Zd (HBX.out.below hb1 HBX.out.lt); have y1 := HX1.out.cell (i := 1) rfl; have y3 := HX1.out.cell (i := 3) rfl; have y4 := HX1.out.cell (i := 4) rfl; have HB1 := Zd hb1; clear hb1)
             go_ret
             exact ⟨ret_bool (by rw [HV1.out]; simp [hdd]), HEND.out _ HB1.out⟩
         . go_enter Tryz.func197, Tryz.ntmps197
           go_wp2_with (refine (HF1.out _ HW0.out).mono ?_; rintro er w1 ⟨rfl, hb1⟩; have HX1 := Zd (HBX.out.below hb1 HBX.out.lt); have y1 := HX1.out.cell (i := 1) rfl; have y3 := HX1.out.cell (i := 3) rfl; have y4 := HX1.out.cell (i := 4) rfl; have HB1 := Zd hb1; clear hb1)
           go_ret
           exact ⟨ret_bool (by rw [HV1.out]; simp), HEND.out _ HB1.out⟩
       . go_enter Tryz.func197, Tryz.ntmps197
         go_wp2_with (refine (HF1.out _ HW0.out).mono ?_; rintro er w1 ⟨rfl, hb1⟩; have HX1 := Zd (HBX.out.below hb1 HBX.out.lt); have y1 := HX1.out.cell (i := 1) rfl; have y3 := HX1.out.cell (i := 3) rfl; have y4 := HX1.out.cell (i := 4) rfl; have HB1 := Zd hb1; clear hb1)
         go_ret
         exact ⟨ret_bool (by rw [HV1.out]; simp), HEND.out _ HB1.out⟩
     . have b2 : (dir == 2) = false := by simp [d2]
       have HV1 : Hid (R = false) := Zd (by rw [HV.out, if_neg d1, if_neg d2]; rfl)
       clear HV d1 d2
       go_enter Tryz.func197, Tryz.ntmps197
       go_wp2_with fail
       go_ret
       exact ⟨ret_bool (by rw [HV1.out]), HB0.out⟩
theorem ret_cell4 {fn : Func} {p q r s : Tmp} {ty ty2 : TypeId} (h : fn.results = #[.cell p ty, .tmp q, .cell r ty2, .tmp s]) {tmps : Array Value} {w : World} {g g2 : Nat} {v v2 a b : Value}
  (ht : tmps.getD p undef = .pointer (some ⟨g, 0, none⟩)) (hl : (loadVar ty ⟨g, 0, none⟩).run Tryz.prog w = .ok v w) (hq : tmps.getD q undef = a)
  (ht2 : tmps.getD r undef = .pointer (some ⟨g2, 0, none⟩)) (hl2 : (loadVar ty2 ⟨g2, 0, none⟩).run Tryz.prog w = .ok v2 w) (hs : tmps.getD s undef = b) :
  (results fn tmps).run Tryz.prog w = .ok (.tuple #[v, a, v2, b]) w := by
 have ha : ∀ g : Nat, (asAddr (.pointer (some ⟨g, 0, none⟩))).run Tryz.prog w = .ok ⟨g, 0, none⟩ w := fun g => by simp [asAddr, go_sem]
 simp only [Array.getD_eq_getD_getElem?] at ht ht2 hq hs
 simp [results, h, ht, ht2, hq, hs, hl, hl2, ha]
def RetGot (g : GotP) (w : World) (e : Ending) (w' : World) : Prop :=
 ∃ (x : Chn) (A : Option Addr) (c : Nat) (l : List Wtr) (TA : Option Addr) (tc : Nat), e = .returned (.tuple #[chnV x, .slice A g.l.length c, rsV g.r, .slice TA g.told.length tc]) /\ x.p = g.c /\ OwnBuf w.heap.size w' x /\
  l.map Wtr.p = g.l /\ OwnWts w.heap.size w' A g.l.length c l /\ w'.ownsRow w.heap.size 233 5 (.slice TA g.told.length tc) g.told.length (rows g.told) /\ Below w.heap.size w w'
theorem first_on {l : List WtP} {dir handle : Int} {t : Nat} {i : Int} (h : firstS l dir handle = some (t, i)) : t < l.length /\ (l.getD t WtP.none).on = true /\ 0 <= i /\ i = firstV (isC dir handle) (l.getD t WtP.none).cs 0 /\ i < (l.getD t WtP.none).cs.length := by
 obtain ⟨h1, h2, h3⟩ := firstK_lt _ _ _ _ _ _ h
 unfold placeS at h3
 split at h3
 . rename_i hon
   have := firstV_rng (p := isC dir handle) (l.getD t WtP.none).cs 0
   exact ⟨h1, hon, h2, h3, by rw [h3]; simpa using this⟩
 . omega
theorem cut_first {l : List WtP} {dir handle : Int} {t : Nat} {i : Int} (h : firstS l dir handle = some (t, i)) : cutS l (t : Int) = (l.set t WtP.none, true) := by
 obtain ⟨h1, h2, _⟩ := first_on h
 unfold cutS
 rw [if_pos ⟨by unfold inL; omega, by rw [Int.toNat_natCast]; exact h2⟩, Int.toNat_natCast]
theorem chnBox {w : World} {g : Nat} {a b c d e : Value} (h : Blk w g 124 [a, b, c, d, e]) :
  w.cell? ⟨g, 0, none⟩ = some a /\ w.cell? ⟨g, 1, none⟩ = some b /\ w.cell? ⟨g, 2, none⟩ = some c /\ w.cell? ⟨g, 3, none⟩ = some d /\ w.cell? ⟨g, 4, none⟩ = some e /\ (∀ i, w.frozen? ⟨g, i, none⟩ = false) :=
 ⟨h.cell (i := 0) rfl, h.cell (i := 1) rfl, h.cell (i := 2) rfl, h.cell (i := 3) rfl, h.cell (i := 4) rfl, h.frozen⟩
abbrev wr9 (w : World) (g g2 : Nat) (v0 v1 v2 v3 v4 r0 r1 r2 r3 : Value) : World :=
 ((((((((w.setCell ⟨g, 0, none⟩ v0).setCell ⟨g, 1, none⟩ v1).setCell ⟨g, 2, none⟩ v2).setCell ⟨g, 3, none⟩ v3).setCell ⟨g, 4, none⟩ v4).setCell ⟨g2, 0, none⟩ r0).setCell ⟨g2, 1, none⟩ r1).setCell ⟨g2, 2, none⟩ r2).setCell ⟨g2, 3, none⟩ r3
structure Wr9 (w V : World) (g g2 : Nat) (v0 v1 v2 v3 v4 r0 r1 r2 r3 : Value) : Prop where
 c : Blk V g 124 [v0, v1, v2, v3, v4]
 r : Blk V g2 42 [r0, r1, r2, r3]
 below : ∀ B, B <= g -> B <= g2 -> B <= w.heap.size -> Below B w V
 own : ∀ (base : Nat) (e : TypeId) (s : Nat) (v : Value) (n : Nat) (xs : List Value), g < base -> g2 < base -> w.ownsRow base e s v n xs -> V.ownsRow base e s v n xs
 size : V.heap.size = w.heap.size
theorem wr9_facts {w : World} {g g2 : Nat} {a b c d e f h i j : Value} (v0 v1 v2 v3 v4 r0 r1 r2 r3 : Value) (h1 : Blk w g 124 [a, b, c, d, e]) (h2 : Blk w g2 42 [f, h, i, j]) (hne : g ≠ g2) :
  Wr9 w (wr9 w g g2 v0 v1 v2 v3 v4 r0 r1 r2 r3) g g2 v0 v1 v2 v3 v4 r0 r1 r2 r3 := by
 have hne2 : g2 ≠ g := fun h => hne h.symm
 refine ⟨?_, ?_, ?_, ?_, ?_⟩
 . exact ((((chn_put h1).other hne 0 r0).other hne 1 r1).other hne 2 r2).other hne 3 r3
 . have k := ((((h2.other hne2 0 v0).other hne2 1 v1).other hne2 2 v2).other hne2 3 v3).other hne2 4 v4
   exact (((k.set_ 0 r0).set_ 1 r1).set_ 2 r2).set_ 3 r3
 . intro B hg hg2 hB
   have k := below5 (v0 := v0) (v1 := v1) (v2 := v2) (v3 := v3) (v4 := v4) (Below.refl B w) hg
   exact (((k.setCell (p := ⟨g2, 0, none⟩) hg2 r0).setCell (p := ⟨g2, 1, none⟩) hg2 r1).setCell (p := ⟨g2, 2, none⟩) hg2 r2).setCell (p := ⟨g2, 3, none⟩) hg2 r3
 . intro base e s v n xs hg hg2 ho
   have k := own_low5 (v0 := v0) (v1 := v1) (v2 := v2) (v3 := v3) (v4 := v4) ho hg
   exact own_low (own_low (own_low (own_low k hg2 0 r0) hg2 1 r1) hg2 2 r2) hg2 3 r3
 . simp [wr9, World.setCell]
theorem Wr9.wts {w V : World} {g g2 : Nat} {v0 v1 v2 v3 v4 r0 r1 r2 r3 : Value} (h : Wr9 w V g g2 v0 v1 v2 v3 v4 r0 r1 r2 r3) {base : Nat} {A : Option Addr} {n c : Nat} {l : List Wtr} (ho : OwnWts base w A n c l) (hg : g < base) (hg2 : g2 < base) : OwnWts base V A n c l :=
 ⟨h.own _ _ _ _ _ _ hg hg2 ho.row, fun x hx => h.own _ _ _ _ _ _ hg hg2 (ho.cs x hx)⟩
theorem cSend_any (x : Chn) (handle : Int) (A : Option Addr) (n c : Nat) (l : List Wtr) (value : Int) (w : World) (h : WtsAt w A n l) (hx : ChAt w x) :
  Calls Tryz.prog 224 #[chnV x, .int .i64 handle, .slice A n c, .int .i64 value] w (RetGot (sendS x.p handle (l.map Wtr.p) value) w) := by
 obtain ⟨gen, cap, us, cl, BA, bc, bl⟩ := x
 have HV : Hid (sendS (Chn.p ⟨gen, cap, us, cl, BA, bc, bl⟩) handle (l.map Wtr.p) value = match firstS (l.map Wtr.p) 2 handle with
  | some (t, i) => ⟨⟨gen, cap, us, cl, bl⟩, (l.map Wtr.p).set t WtP.none, Resr.none, [endedS (l.map Wtr.p) t i 0 value]⟩
  | .none => ⟨⟨gen, cap, us, cl, bl ++ [value]⟩, l.map Wtr.p, Resr.none, []⟩) := Zd rfl
 generalize hG : sendS (Chn.p ⟨gen, cap, us, cl, BA, bc, bl⟩) handle (l.map Wtr.p) value = G at *
 clear hG
 have HCP := Zd (fun W (hW : ChAt W ⟨gen, cap, us, cl, BA, bc, bl⟩) => cCopy_any ⟨gen, cap, us, cl, BA, bc, bl⟩ W hW)
 have HWC := Zd (fun W (hW : WtsAt W A n l) => wCopy_any A n c l W hW)
 have HF2 := Zd (fun W (hW : WtsAt W A n l) => wFirst_any A n c l 2 handle W hW)
 have HEN := Zd (fun W (hW : WtsAt W A n l) (t : Nat) (i : Int) (ht : t < n) => cEnded_any A n c l t i 0 value W hW ht)
 have HCU := Zd (fun W (hW : WtsAt W A n l) (t : Int) => wCut_any A n c l t W hW)
 obtain ⟨b0, b1, b2, hb3⟩ := box3 w 124 124 42 [.int .i64 gen, .int .i64 cap, .bool us, .bool cl, .slice BA bl.length bc] [.int .i64 0, .int .i64 0, .bool false, .bool false, .slice none 0 0] [.int .i64 0, .int .i64 0, .int .i64 0, .int .i64 0]
 have HB0 := Zd b0
 have HB1 := Zd b1
 have HB2 := Zd b2
 have HB3 := Zd hb3
 have HX := Zd (hx.below hb3)
 have HMB0 := Zd hx.few
 have HW := Zd (h.below hb3)
 clear b0 b1 b2 hb3 hx h
 unfold chnV
 simp only
 unfold chnV at HCP
 simp only at HCP
 generalize hm : bl.length = m at *
 have HM := Zd hm
 have HMB : Hid (m <= 2097152) := Zd (by have h := HMB0.out; have e : bl.length = m := HM.out; rw [<- e]; omega)
 clear hm
 cases hf : firstS (l.map Wtr.p) 2 handle with
 | none =>
   rw [hf] at HV HF2
   simp only at HV
   clear hf
   go_enter Tryz.func224, Tryz.ntmps224
   go_upto_region 1 with fail
   generalize ((w.alloc (.cells #[.int .i64 gen, .int .i64 cap, .bool us, .bool cl, .slice BA m bc] 124)).alloc (.cells #[.int .i64 0, .int .i64 0, .bool false, .bool false, .slice none 0 0] 124)).alloc (.cells #[.int .i64 0, .int .i64 0, .int .i64 0, .int .i64 0] 42) = W0 at *
   obtain ⟨y0, y1, y2, y3, y4, _⟩ := chnBox HB0.out
   go_wp2_with (first
    | (refine (HCP.out _ HX.out).mono ?_; rintro er w1 ⟨⟨g1, p1, u1, k1, A1, d1, l1⟩, rfl, hp1, hown1, hb1⟩
       simp only [Chn.p, ChP.mk.injEq] at hp1
       obtain ⟨rfl, rfl, rfl, rfl, rfl⟩ := hp1
       unfold chnV
       simp only [HM.out]
       have HO1 : Hid (w1.ownsRow W0.heap.size 3 1 (.slice A1 m d1) m (ints l1)) := Zd (by have := hown1; unfold OwnBuf at this; simp only [HM.out] at this; exact this)
       have ha := (Below.refl w1.heap.size w1).alloc (Nat.le_refl _) (.cells #[.int .i64 g1, .int .i64 p1, .bool u1, .bool k1, .slice A1 m d1] 124)
       have HB4 := Zd (hb1.trans (ha.mono hb1.size))
       have HO4 := Zd (own_below HO1.out ha)
       have HX4 := Zd (Blk.new w1 124 [.int .i64 g1, .int .i64 p1, .bool u1, .bool k1, .slice A1 m d1])
       have HS1 := Zd hb1.size
       clear hown1 hb1 ha y0 y1 y2 y3 y4)
    | (refine (HF2.out _ (HW.out.below HB4.out)).mono ?_; rintro er w2 ⟨rfl, hb2⟩
       have HB5 := Zd (btr HB4.out hb2)
       have HO5 := Zd (own_below HO4.out hb2)
       have HX5 := Zd (HX4.out.below hb2 HX4.out.lt)
       have r4 := HX5.out.cell (i := 4) rfl
       have r5 := HX5.out.frozen 4
       have k12 : w1.heap.size < w2.heap.size := HX5.out.lt
       clear hb2)
    | (at_builtin; refine append_int (.tmp 46) (.tmp 48) rfl rfl W0.heap.size A1 m d1 l1 value _ 1 rfl (own_below HO5.out ((Below.refl _ _).alloc (Nat.le_refl _) _)) rfl (new1 _ _ _) HMB.out (by have := HB5.out.size; simp; omega) ?_
       intro A6 d6 w6 hown6 hg6 hat6
       have hkk : some w1.heap.size ≠ Value.ownBlock (.slice A1 m d1) := fun e => by have := own_in HO1.out _ e.symm; omega
       have HX6 := Zd (blk_grown (HX5.out.alloc _) hat6 hkk)
       have HO6 := Zd hown6
       have HB6 := Zd ((HB5.out.alloc HB5.out.size (.cells #[.int .i64 value] 3)).trans hg6)
       have s4 := HX6.out.cell (i := 4) rfl
       have s5 := HX6.out.frozen 4
       clear hown6 hg6 hat6 hkk r4 r5 k12))
   have HX7 := Zd (HX6.out.set_ 4 (.slice A6 (m + 1) d6))
   have HO7 := Zd (own_ty HO6.out HX6.out (by decide) 4 (.slice A6 (m + 1) d6))
   have HB7 := Zd (HB6.out.setCell (p := ⟨w1.heap.size, 4, none⟩) HS1.out (.slice A6 (m + 1) d6))
   clear s4 s5
   generalize w6.setCell ⟨w1.heap.size, 4, none⟩ (.slice A6 (m + 1) d6) = W7 at *
   have HW7 := Zd (HW.out.below HB7.out)
   have HT7 := Zd HX7.out.lt
   have x0 := HX7.out.cell (i := 0) rfl
   have x1 := HX7.out.cell (i := 1) rfl
   have x2 := HX7.out.cell (i := 2) rfl
   have x3 := HX7.out.cell (i := 3) rfl
   have x4 := HX7.out.cell (i := 4) rfl
   have HCALL := Zd (fun W (hW : Below W7.heap.size W7 W) => HWC.out W (HW7.out.below hW))
   go_region_with (refine (HCALL.out _ (by first | exact Below.refl _ _ | exact (Below.refl _ _).drew)).mono ?_
                   rintro er w8 ⟨A8, c8, l8, rfl, hm8, hown8, hb8⟩
                   have HM8 := Zd hm8
                   have HOW := Zd hown8
                   have hb8' : Below W7.heap.size W7 w8 := by first | exact hb8 | exact (Below.refl _ _).drew.trans hb8
                   have HB8 := Zd hb8'
                   have HX8 := Zd (HX7.out.below hb8' HT7.out)
                   have HB9 := Zd (HB7.out.trans (hb8'.mono HB7.out.size))
                   have HY8 := Zd (HB1.out.below HB9.out HB1.out.lt)
                   have HY10 := Zd (HB2.out.below HB9.out HB2.out.lt)
                   have r0 := HX8.out.cell (i := 0) rfl
                   have r1 := HX8.out.cell (i := 1) rfl
                   have r2 := HX8.out.cell (i := 2) rfl
                   have r3 := HX8.out.cell (i := 3) rfl
                   have r4 := HX8.out.cell (i := 4) rfl
                   have e0 := HY8.out.cell (i := 0) rfl
                   have ze0 := HY8.out.frozen 0
                   have e1 := HY8.out.cell (i := 1) rfl
                   have ze1 := HY8.out.frozen 1
                   have e2 := HY8.out.cell (i := 2) rfl
                   have ze2 := HY8.out.frozen 2
                   have e3 := HY8.out.cell (i := 3) rfl
                   have ze3 := HY8.out.frozen 3
                   have e4 := HY8.out.cell (i := 4) rfl
                   have ze4 := HY8.out.frozen 4
                   have f0 := HY10.out.cell (i := 0) rfl
                   have zf0 := HY10.out.frozen 0
                   have f1 := HY10.out.cell (i := 1) rfl
                   have zf1 := HY10.out.frozen 1
                   have f2 := HY10.out.cell (i := 2) rfl
                   have zf2 := HY10.out.frozen 2
                   have f3 := HY10.out.cell (i := 3) rfl
                   have zf3 := HY10.out.frozen 3
                   clear hm8 hown8 hb8 hb8')
   all_goals
    have n5 : w.heap.size + 1 ≠ w.heap.size + 1 + 1 := by omega
    have HF := Zd (wr9_facts (.int .i64 g1) (.int .i64 p1) (.bool u1) (.bool k1) (.slice A6 (m + 1) d6) (.int .i64 0) (.int .i64 0) (.int .i64 0) (.int .i64 0) HY8.out HY10.out n5)
    unfold wr9 at HF
    have HBX := Zd (HB3.out.trans (HB9.out.mono HB3.out.size))
    go_wp2_with fail
    generalize (((((((((w8.setCell ⟨w.heap.size + 1, 0, none⟩ (.int .i64 g1)).setCell ⟨w.heap.size + 1, 1, none⟩ (.int .i64 p1)).setCell ⟨w.heap.size + 1, 2, none⟩ (.bool u1)).setCell ⟨w.heap.size + 1, 3, none⟩ (.bool k1)).setCell ⟨w.heap.size + 1, 4, none⟩ (.slice A6 (m + 1) d6)).setCell ⟨w.heap.size + 1 + 1, 0, none⟩ (.int .i64 0)).setCell ⟨w.heap.size + 1 + 1, 1, none⟩ (.int .i64 0)).setCell ⟨w.heap.size + 1 + 1, 2, none⟩ (.int .i64 0)).setCell ⟨w.heap.size + 1 + 1, 3, none⟩ (.int .i64 0)) = V at *
    have hlt8 : w.heap.size + 1 < W0.heap.size := HB1.out.lt
    have hlt10 : w.heap.size + 1 + 1 < W0.heap.size := HB2.out.lt
    have hS := HB3.out.size
    have hl8 : (l.map Wtr.p).length = l.length := List.length_map _
    refine bodyPost_ret (v := .tuple #[chnV ⟨g1, p1, u1, k1, A6, d6, l1 ++ [value]⟩, .slice A8 (l.map Wtr.p).length c8, rsV Resr.none, .slice none 0 0])
     (ret_cell4 (g := w.heap.size + 1) (g2 := w.heap.size + 1 + 1) rfl rfl (chn_load (x := ⟨g1, p1, u1, k1, A6, d6, l1 ++ [value]⟩) HF.out.c (by simp only [Chn.cells, List.length_append, List.length_singleton, HM.out])) (by rw [hl8]; rfl) rfl (rsl_load (r := Resr.none) HF.out.r) rfl) rfl ?_
    refine ⟨⟨g1, p1, u1, k1, A6, d6, l1 ++ [value]⟩, A8, c8, l8, none, 0, ?_, ?_, ?_, ?_, ?_, ?_, ?_⟩
    . rw [HV.out]; rfl
    . rw [HV.out]; rfl
    . unfold OwnBuf
      simp only [List.length_append, List.length_singleton, HM.out]
      exact own_lower (HF.out.own _ _ _ _ _ _ hlt8 hlt10 (own_below HO7.out HB8.out)) hS
    . rw [HM8.out, HV.out]
    . rw [HV.out]
      exact (HF.out.wts HOW.out (Nat.lt_of_lt_of_le hlt8 HB7.out.size) (Nat.lt_of_lt_of_le hlt10 HB7.out.size)).lower (Nat.le_trans hS HB7.out.size)
    . rw [HV.out]; exact own_nil _ _ _ _
    . exact HBX.out.trans (HF.out.below w.heap.size (by omega) (by omega) HBX.out.size)
 | some p =>
   obtain ⟨t, i⟩ := p
   have HCT := Zd (cut_first hf)
   have htn : t < n := by
    have := (firstK_lt _ _ _ _ _ _ hf).1
    rw [List.length_map, HW.out.len] at this
    exact this
   rw [hf] at HV HF2
   simp only at HV
   clear hf
   have HTN := Zd htn
   clear htn
   go_enter Tryz.func224, Tryz.ntmps224
   go_upto_region 1 with fail
   generalize ((w.alloc (.cells #[.int .i64 gen, .int .i64 cap, .bool us, .bool cl, .slice BA m bc] 124)).alloc (.cells #[.int .i64 0, .int .i64 0, .bool false, .bool false, .slice none 0 0] 124)).alloc (.cells #[.int .i64 0, .int .i64 0, .int .i64 0, .int .i64 0] 42) = W0 at *
   obtain ⟨y0, y1, y2, y3, y4, _⟩ := chnBox HB0.out
   go_wp2_with (first
    | (refine (HCP.out _ HX.out).mono ?_; rintro er w1 ⟨⟨g1, p1, u1, k1, A1, d1, l1⟩, rfl, hp1, hown1, hb1⟩
       simp only [Chn.p, ChP.mk.injEq] at hp1
       obtain ⟨rfl, rfl, rfl, rfl, rfl⟩ := hp1
       unfold chnV
       simp only [HM.out]
       have HO1 : Hid (w1.ownsRow W0.heap.size 3 1 (.slice A1 m d1) m (ints l1)) := Zd (by have := hown1; unfold OwnBuf at this; simp only [HM.out] at this; exact this)
       have ha := (Below.refl w1.heap.size w1).alloc (Nat.le_refl _) (.cells #[.int .i64 g1, .int .i64 p1, .bool u1, .bool k1, .slice A1 m d1] 124)
       have HB4 := Zd (hb1.trans (ha.mono hb1.size))
       have HO4 := Zd (own_below HO1.out ha)
       have HX4 := Zd (Blk.new w1 124 [.int .i64 g1, .int .i64 p1, .bool u1, .bool k1, .slice A1 m d1])
       have HS1 := Zd hb1.size
       clear hown1 hb1 ha y0 y1 y2 y3 y4)
    | (refine (HF2.out _ (HW.out.below HB4.out)).mono ?_; rintro er w2 ⟨rfl, hb2⟩
       have HB5 := Zd (btr HB4.out hb2)
       have HO5 := Zd (own_below HO4.out hb2)
       have HX5 := Zd (HX4.out.below hb2 HX4.out.lt)
       clear hb2)
    | (refine (HEN.out _ (HW.out.below HB5.out) t i HTN.out).mono ?_; rintro er w3 ⟨rfl, hb3⟩
       generalize endedS (l.map Wtr.p) t i 0 value = td at *
       have ha := (Below.refl w3.heap.size w3).alloc (Nat.le_refl _) (.cells #[.int .i64 td.1, .int .i64 td.2.seq, .int .i64 td.2.case_, .int .i64 td.2.code, .int .i64 td.2.value] 233)
       have HB6 := Zd ((btr HB5.out hb3).trans (ha.mono (Nat.le_trans HB5.out.size hb3.size)))
       have HO6 := Zd (own_below (own_below HO5.out hb3) ha)
       have HX6 := Zd ((HX5.out.below hb3 HX5.out.lt).below ha (Nat.lt_of_lt_of_le HX5.out.lt hb3.size))
       have HT6 := Zd (Blk.new w3 233 [.int .i64 td.1, .int .i64 td.2.seq, .int .i64 td.2.case_, .int .i64 td.2.code, .int .i64 td.2.value])
       have HS3 := Zd (Nat.le_trans HB5.out.size hb3.size)
       have HS5 := Zd (Nat.lt_of_lt_of_le HX5.out.lt hb3.size)
       clear hb3 ha)
    | (refine (HCU.out _ (HW.out.below HB6.out) (t : Int)).mono ?_; rintro er w4 ⟨A4, c4, l4, rfl, hm4, hown4, hb4⟩
       have HB7 := Zd (btr HB6.out hb4)
       have HO7 := Zd (own_below HO6.out hb4)
       have HX7 := Zd (HX6.out.below hb4 HX6.out.lt)
       have HT7 := Zd (HT6.out.below hb4 HT6.out.lt)
       have HM4 := Zd hm4
       have HOW := Zd hown4
       clear hm4 hown4 hb4))
   have hbx : Below w.heap.size w w4 := HB3.out.trans (HB7.out.mono HB3.out.size)
   have HBX := Zd hbx
   have HY8 := Zd (HB1.out.below HB7.out HB1.out.lt)
   have HY10 := Zd (HB2.out.below HB7.out HB2.out.lt)
   have l0 := HB1.out.lt
   have l1' := HB2.out.lt
   have l2 := HS1.out
   have l3 := HS5.out
   have l4' := HT7.out.lt
   have r0 := HX7.out.cell (i := 0) rfl
   have ra0 := fun ob => (HX7.out.alloc ob).cell (i := 0) rfl
   have r1 := HX7.out.cell (i := 1) rfl
   have ra1 := fun ob => (HX7.out.alloc ob).cell (i := 1) rfl
   have r2 := HX7.out.cell (i := 2) rfl
   have ra2 := fun ob => (HX7.out.alloc ob).cell (i := 2) rfl
   have r3 := HX7.out.cell (i := 3) rfl
   have ra3 := fun ob => (HX7.out.alloc ob).cell (i := 3) rfl
   have r4 := HX7.out.cell (i := 4) rfl
   have ra4 := fun ob => (HX7.out.alloc ob).cell (i := 4) rfl
   have s0 := HT7.out.cell (i := 0) rfl
   have sa0 := fun ob => (HT7.out.alloc ob).cell (i := 0) rfl
   have s1 := HT7.out.cell (i := 1) rfl
   have sa1 := fun ob => (HT7.out.alloc ob).cell (i := 1) rfl
   have s2 := HT7.out.cell (i := 2) rfl
   have sa2 := fun ob => (HT7.out.alloc ob).cell (i := 2) rfl
   have s3 := HT7.out.cell (i := 3) rfl
   have sa3 := fun ob => (HT7.out.alloc ob).cell (i := 3) rfl
   have s4 := HT7.out.cell (i := 4) rfl
   have sa4 := fun ob => (HT7.out.alloc ob).cell (i := 4) rfl
   have e0 := HY8.out.cell (i := 0) rfl
   have ea0 := fun ob => (HY8.out.alloc ob).cell (i := 0) rfl
   have ze0 := HY8.out.frozen 0
   have zea0 := fun ob => (HY8.out.alloc ob).frozen 0
   have e1 := HY8.out.cell (i := 1) rfl
   have ea1 := fun ob => (HY8.out.alloc ob).cell (i := 1) rfl
   have ze1 := HY8.out.frozen 1
   have zea1 := fun ob => (HY8.out.alloc ob).frozen 1
   have e2 := HY8.out.cell (i := 2) rfl
   have ea2 := fun ob => (HY8.out.alloc ob).cell (i := 2) rfl
   have ze2 := HY8.out.frozen 2
   have zea2 := fun ob => (HY8.out.alloc ob).frozen 2
   have e3 := HY8.out.cell (i := 3) rfl
   have ea3 := fun ob => (HY8.out.alloc ob).cell (i := 3) rfl
   have ze3 := HY8.out.frozen 3
   have zea3 := fun ob => (HY8.out.alloc ob).frozen 3
   have e4 := HY8.out.cell (i := 4) rfl
   have ea4 := fun ob => (HY8.out.alloc ob).cell (i := 4) rfl
   have ze4 := HY8.out.frozen 4
   have zea4 := fun ob => (HY8.out.alloc ob).frozen 4
   have f0 := HY10.out.cell (i := 0) rfl
   have fa0 := fun ob => (HY10.out.alloc ob).cell (i := 0) rfl
   have zf0 := HY10.out.frozen 0
   have zfa0 := fun ob => (HY10.out.alloc ob).frozen 0
   have f1 := HY10.out.cell (i := 1) rfl
   have fa1 := fun ob => (HY10.out.alloc ob).cell (i := 1) rfl
   have zf1 := HY10.out.frozen 1
   have zfa1 := fun ob => (HY10.out.alloc ob).frozen 1
   have f2 := HY10.out.cell (i := 2) rfl
   have fa2 := fun ob => (HY10.out.alloc ob).cell (i := 2) rfl
   have zf2 := HY10.out.frozen 2
   have zfa2 := fun ob => (HY10.out.alloc ob).frozen 2
   have f3 := HY10.out.cell (i := 3) rfl
   have fa3 := fun ob => (HY10.out.alloc ob).cell (i := 3) rfl
   have zf3 := HY10.out.frozen 3
   have zfa3 := fun ob => (HY10.out.alloc ob).frozen 3
   have n1 : ¬ w1.heap.size = w.heap.size + 1 := by omega
   have n2 : ¬ w1.heap.size = w.heap.size + 1 + 1 := by omega
   have n3 : ¬ w3.heap.size = w.heap.size + 1 := by omega
   have n4 : ¬ w3.heap.size = w.heap.size + 1 + 1 := by omega
   have n5 : ¬ w.heap.size + 1 = w.heap.size + 1 + 1 := by omega
   have n6 : ¬ w.heap.size + 1 + 1 = w.heap.size + 1 := by omega
   have n7 : ¬ w.heap.size + 1 = w4.heap.size := by omega
   have n8 : ¬ w.heap.size + 1 + 1 = w4.heap.size := by omega
   have n9 : ¬ w1.heap.size = w4.heap.size := by omega
   have n10 : ¬ w3.heap.size = w4.heap.size := by omega
   have k8 : w.heap.size + 1 < w4.heap.size := by omega
   have k10 : w.heap.size + 1 + 1 < w4.heap.size := by omega
   clear l0 l1' l2 l3 l4' hbx
   go_region
   go_wp2_with fail
   have HF := Zd (wr9_facts (.int .i64 g1) (.int .i64 p1) (.bool u1) (.bool k1) (.slice A1 m d1) (.int .i64 0) (.int .i64 0) (.int .i64 0) (.int .i64 0) HY8.out HY10.out n5)
   clear ra0 ra1 ra2 ra3 ra4 sa0 sa1 sa2 sa3 sa4
   unfold wr9 at HF
   generalize (((((((((w4.setCell ⟨w.heap.size + 1, 0, none⟩ (.int .i64 g1)).setCell ⟨w.heap.size + 1, 1, none⟩ (.int .i64 p1)).setCell ⟨w.heap.size + 1, 2, none⟩ (.bool u1)).setCell ⟨w.heap.size + 1, 3, none⟩ (.bool k1)).setCell ⟨w.heap.size + 1, 4, none⟩ (.slice A1 m d1)).setCell ⟨w.heap.size + 1 + 1, 0, none⟩ (.int .i64 0)).setCell ⟨w.heap.size + 1 + 1, 1, none⟩ (.int .i64 0)).setCell ⟨w.heap.size + 1 + 1, 2, none⟩ (.int .i64 0)).setCell ⟨w.heap.size + 1 + 1, 3, none⟩ (.int .i64 0)) = V at *
   have HFC := HF.out.c.alloc (.cells #[.int .i64 td.1, .int .i64 td.2.seq, .int .i64 td.2.case_, .int .i64 td.2.code, .int .i64 td.2.value] 233)
   have HFR := HF.out.r.alloc (.cells #[.int .i64 td.1, .int .i64 td.2.seq, .int .i64 td.2.case_, .int .i64 td.2.code, .int .i64 td.2.value] 233)
   have HFT : Blk (V.alloc (.cells #[.int .i64 td.1, .int .i64 td.2.seq, .int .i64 td.2.case_, .int .i64 td.2.code, .int .i64 td.2.value] 233)) w4.heap.size 233 (Tld.cells td) := blk_new (cs := Tld.cells td) HF.out.size.symm
   have hva := (Below.refl V.heap.size V).alloc (Nat.le_refl _) (.cells #[.int .i64 td.1, .int .i64 td.2.seq, .int .i64 td.2.case_, .int .i64 td.2.code, .int .i64 td.2.value] 233)
   generalize V.alloc (.cells #[.int .i64 td.1, .int .i64 td.2.seq, .int .i64 td.2.case_, .int .i64 td.2.code, .int .i64 td.2.value] 233) = V2 at *
   have hlt8 : w.heap.size + 1 < W0.heap.size := HB1.out.lt
   have hlt10 : w.heap.size + 1 + 1 < W0.heap.size := HB2.out.lt
   have hS := HB3.out.size
   refine bodyPost_ret (v := .tuple #[chnV ⟨g1, p1, u1, k1, A1, d1, l1⟩, .slice A4 (cutS (l.map Wtr.p) (t : Int)).1.length c4, rsV Resr.none, .slice (some ⟨w4.heap.size, 0, none⟩) 1 1])
    (ret_cell4 (g := w.heap.size + 1) (g2 := w.heap.size + 1 + 1) rfl rfl (chn_load (x := ⟨g1, p1, u1, k1, A1, d1, l1⟩) HFC.drew (by simp only [Chn.cells, HM.out])) rfl rfl (rsl_load (r := Resr.none) HFR.drew) rfl) rfl ?_
   refine ⟨⟨g1, p1, u1, k1, A1, d1, l1⟩, A4, c4, l4, some ⟨w4.heap.size, 0, none⟩, 1, ?_, ?_, ?_, ?_, ?_, ?_, ?_⟩
   . rw [HV.out, HCT.out]; rfl
   . rw [HV.out]; rfl
   . unfold OwnBuf
     simp only [HM.out]
     exact own_lower (own_below (HF.out.own _ _ _ _ _ _ hlt8 hlt10 HO7.out) hva.drew) hS
   . rw [HM4.out, HCT.out, HV.out]
   . rw [HV.out]
     have h := (HF.out.wts HOW.out (Nat.lt_of_lt_of_le hlt8 HB6.out.size) (Nat.lt_of_lt_of_le hlt10 HB6.out.size)).below hva.drew
     rw [HCT.out] at h
     exact h.lower (Nat.le_trans hS HB6.out.size)
   . rw [HV.out]
     have h := own_blk1 (s := 5) (n := 1) HFT.drew HBX.out.size rfl (by unfold maxLen; omega)
     rw [rows_single]
     exact h
   . have h1 := HF.out.below w.heap.size (by omega) (by omega) HBX.out.size
     exact (HBX.out.trans (h1.trans (hva.mono (by rw [HF.out.size]; exact HBX.out.size)))).drew
end Go.Proofs.YtieglgahfeecbaaGreatDoor
