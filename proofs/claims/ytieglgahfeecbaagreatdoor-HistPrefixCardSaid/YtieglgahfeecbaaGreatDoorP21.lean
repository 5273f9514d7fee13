/- hall: what a good call's cases are, and the first that is ready: plain. -/
import Derived.Test.YtieglgahfeecbaaGreatDoorP17
import Derived.Test.YtieglgahfeecbaaGreatDoorP18
import Derived.Test.YtieglgahfeecbaaGreatDoorP20
set_option maxHeartbeats 64000000
set_option maxRecDepth 100000
namespace Go.Proofs.YtieglgahfeecbaaGreatDoor
open Go.RowKit Go.Sort
attribute [local go_sem ↓] Go.wp_at_zero Go.wp_at_succ
def RetGotO (q : GotP) (w : World) (e : Ending) (w' : World) : Prop :=
 ∃ (x : Chn) (A : Option Addr) (d : Nat) (l : List Wtr) (TA : Option Addr) (tc : Nat), e = .returned (.tuple #[chnV x, .slice A l.length d, rsV q.r, .slice TA q.told.length tc]) /\ x.p = q.c /\ OwnBuf w.heap.size w' x /\
  l.map Wtr.p = q.l /\ OwnWts w.heap.size w' A l.length d l /\ w'.ownsRow w.heap.size 233 5 (.slice TA q.told.length tc) q.told.length (rows q.told) /\ Below w.heap.size w w'
theorem RetGot.own {q : GotP} {w w' : World} {e : Ending} (h : RetGot q w e w') : RetGotO q w e w' := by
 obtain ⟨x, A, c, l, TA, tc, h1, h2, h3, h4, h5, h6, h7⟩ := h
 have hl : q.l.length = l.length := by rw [<- h4, List.length_map]
 rw [hl] at h1 h5
 exact ⟨x, A, c, l, TA, tc, h1, h2, h3, h4, h5, h6, h7⟩
theorem send_told (c : ChP) (handle : Int) (l : List WtP) (v : Int) : (sendS c handle l v).told.length <= 1 := by
 unfold sendS; split <;> simp
theorem recv_told (c : ChP) (handle : Int) (l : List WtP) : (recvS c handle l).told.length <= 1 := by
 unfold recvS; split <;> simp
theorem do_told (c : ChP) (handle : Int) (l : List WtP) (dir v : Int) : (doS c handle l dir v).told.length <= 1 := by
 unfold doS
 split
 . simp
 . split
   . exact send_told _ _ _ _
   . split
     . exact recv_told _ _ _
     . simp
def OneCut (w1 : World) (q : GotP) (s9 s10 s11 s12 : Value) (wx : World) : Prop :=
 ∃ (gt gr : Nat) (y : Chn) (A : Option Addr) (d : Nat) (l : List Wtr) (TA : Option Addr) (tc : Nat), s9 = .pointer (some ⟨gt, 0, none⟩) /\ s10 = .slice A l.length d /\ s11 = .pointer (some ⟨gr, 0, none⟩) /\ s12 = .slice TA q.told.length tc /\ y.p = q.c /\ l.map Wtr.p = q.l /\
  w1.heap.size <= gt /\ w1.heap.size <= gr /\ Blk wx gt 124 y.cells /\ Blk wx gr 42 q.r.cells /\ OwnBuf w1.heap.size wx y /\ OwnWts w1.heap.size wx A l.length d l /\ wx.ownsRow w1.heap.size 233 5 (.slice TA q.told.length tc) q.told.length (rows q.told) /\ Below w1.heap.size w1 wx
theorem OwnWts.box4 {base : Nat} {w : World} {A : Option Addr} {n c g : Nat} {l : List Wtr} {cs : List Value} {e' : TypeId} {v0 v1 v2 v3 : Value} (h : OwnWts base w A n c l) (hg : Blk w g e' cs) (h1 : 128 ≠ e') (h2 : 100 ≠ e') :
  OwnWts base ((((w.setCell ⟨g, 0, none⟩ v0).setCell ⟨g, 1, none⟩ v1).setCell ⟨g, 2, none⟩ v2).setCell ⟨g, 3, none⟩ v3) A n c l :=
 ((((h.box hg h1 h2 0 v0).box (hg.set_ 0 v0) h1 h2 1 v1).box ((hg.set_ 0 v0).set_ 1 v1) h1 h2 2 v2).box (((hg.set_ 0 v0).set_ 1 v1).set_ 2 v2) h1 h2 3 v3)
theorem hOne_any (base g : Nat) (h : Hal) (c : Cfg) (t n : Int) (wh : Nat) (cs : Cse) (w : World) (H : HSt base g w h c t n) (hf : HalFew h) (hfb : findB (h.chans.map Chn.p) cs.handle = true) :
  Calls Tryz.prog 198 #[.pointer (some ⟨g, 0, none⟩), .int .i64 wh, cseV cs] w (RetStK base g h c t n (oneS h.p wh cs).1 (oneS h.p wh cs).2 w) := by
 obtain ⟨kd, handle, kv⟩ := cs
 simp only at hfb
 obtain ⟨b0, b1, hb2⟩ := box2 w 100 42 [.int .i64 kd, .int .i64 handle, .int .i64 kv] [.int .i64 0, .int .i64 0, .int .i64 0, .int .i64 0]
 have HY0 := Zd b0
 have HZ := Zd b1
 have HA := Zd hb2
 have HH := Zd (fun W (hb : Below w.heap.size w W) => H.below hb)
 have HF := Zd hf
 have HO := Zd H
 have HFI := Zd (fun W (hb : Below w.heap.size w W) => hFind_any h handle W (H.below hb |>.own.cr |> own_rd) hf.cf)
 have hgl := H.lt
 have hnw := H.new
 obtain ⟨k, hk1, hk2, hk3, hk4, hu5, hu6⟩ := find_yes hfb
 clear hu5 hu6
 rw [hk1, hfb] at HFI
 have HR : Hid (oneS h.p wh ⟨kd, handle, kv⟩ = (⟨h.ticket, (h.chans.map Chn.p).set k (doS (h.chans.getD k Chn.none).p handle (h.waits.map Wtr.p) kd kv).c, (doS (h.chans.getD k Chn.none).p handle (h.waits.map Wtr.p) kd kv).l, tellS h.done (doS (h.chans.getD k Chn.none).p handle (h.waits.map Wtr.p) kd kv).told⟩, ⟨(doS (h.chans.getD k Chn.none).p handle (h.waits.map Wtr.p) kd kv).r.seq, wh, (doS (h.chans.getD k Chn.none).p handle (h.waits.map Wtr.p) kd kv).r.code, (doS (h.chans.getD k Chn.none).p handle (h.waits.map Wtr.p) kd kv).r.value⟩)) := Zd (by
  have e1 : (h.p.chans.getD k ChP.none) = (h.chans.getD k Chn.none).p := chP_getD h.chans k
  unfold oneS
  rw [hk2, e1]
  rfl)
 generalize oneS h.p wh ⟨kd, handle, kv⟩ = R at *
 have HXA := Zd (fun W (hb : Below w.heap.size w W) => ((HH.out W hb).own.at_ HF.out).cb (h.chans.getD k Chn.none) (mem_getD hk3))
 have HDO := Zd (fun W (hb : Below w.heap.size w W) => (cDo_any (h.chans.getD k Chn.none) handle h.WA h.waits.length h.wc h.waits kd kv W ((HH.out W hb).own.at_ HF.out).wr (HXA.out W hb)).mono (fun _ _ hr => hr.own))
 have HTW : Hid ((doS (h.chans.getD k Chn.none).p handle (h.waits.map Wtr.p) kd kv).told.length <= 1048576) := Zd (Nat.le_trans (do_told _ _ _ _ _) (by omega))
 generalize doS (h.chans.getD k Chn.none).p handle (h.waits.map Wtr.p) kd kv = q at *
 have HK3 := Zd hk3
 clear H hf hk1 hk2 hk3 hk4 hfb b0 b1 hb2 HXA
 have hg1 : g ≠ w.heap.size := Nat.ne_of_lt hgl
 have hg2 : g ≠ w.heap.size + 1 := by omega
 unfold halV at HFI
 unfold cseV
 simp only
 go_enter Tryz.func198, Tryz.ntmps198
 go_upto_region 1 with fail
 generalize ((w.alloc (.cells #[.int .i64 kd, .int .i64 handle, .int .i64 kv] 100)).alloc (.cells #[.int .i64 0, .int .i64 0, .int .i64 0, .int .i64 0] 42)) = W0 at *
 obtain ⟨s0, s1, s2, s3⟩ := (HH.out _ HA.out).hal
 have k0 := HY0.out.cell (i := 0) rfl
 have k1 := HY0.out.cell (i := 1) rfl
 have k2 := HY0.out.cell (i := 2) rfl
 have l0 : g < W0.heap.size := (HH.out _ HA.out).lt
 have l1 : w.heap.size < W0.heap.size := HY0.out.lt
 go_region_held3 (fun w' => w'.cell? ⟨g, 0, none⟩ = some (.int .i64 h.ticket) /\ w'.cell? ⟨g, 1, none⟩ = some (.slice h.CA h.chans.length h.cc) /\ w'.cell? ⟨g, 2, none⟩ = some (.slice h.WA h.waits.length h.wc) /\ w'.cell? ⟨g, 3, none⟩ = some (.slice h.DA h.done.length h.dc) /\ w'.cell? ⟨w.heap.size, 1, none⟩ = some (.int .i64 handle)) (first | go_keep | (simp only [hk1, hk2]; go_keep)) (first
  | (go_at_call 194
     refine (HFI.out _ ?_).mono ?_
     . first | exact HA.out | exact HA.out.drew
     rintro er w1 ⟨rfl, hb1'⟩
     have hb1 : Below W0.heap.size W0 w1 := ⟨hb1'.os, hb1'.tape, hb1'.output, hb1'.size, hb1'.block⟩
     have hk1 := fun o => hb1.cell (p := ⟨g, o, none⟩) l0
     have hk2 := fun o => hb1.cell (p := ⟨w.heap.size, o, none⟩) l1))
 have HB1 := Zd (btr HA.out hb1)
 have HY1 := Zd (HY0.out.below hb1 HY0.out.lt)
 have HZ1 := Zd (HZ.out.below hb1 HZ.out.lt)
 have HS1 := Zd (HH.out _ HB1.out)
 have HL1 := HZ1.out.lt
 clear hk1 hk2 hb1 hb1' s0 s1 s2 s3 k0 k1 k2 l0 l1
 have k0 := HY1.out.cell (i := 0) rfl
 have k1 := HY1.out.cell (i := 1) rfl
 have k2 := HY1.out.cell (i := 2) rfl
 have HC := Zd HS1.out.own.cr
 obtain ⟨gc, hCA, hgc1, hgc2⟩ := own_some HC.out (by have := HK3.out; omega)
 rw [hCA] at HC
 obtain ⟨c0, c1, c2, c3, c4⟩ := chn_cells (k := k) (x := h.chans.getD k Chn.none) (own_cellAt HC.out) HK3.out rfl
 simp only [Nat.zero_add] at c0 c1 c2 c3 c4
 obtain ⟨s0, s1, s2, s3⟩ := HS1.out.hal
 have HCA := Zd hCA
 rw [hCA] at s1
 have u0 : (0 : Int) <= (k : Int) := by omega
 have u1 : (k : Int) < (h.chans.length : Int) := by have := HK3.out; omega
 have gl1 : g < w1.heap.size := HS1.out.lt
 have gk1 : w.heap.size < w1.heap.size := HY1.out.lt
 clear hCA
 generalize hx : h.chans.getD k Chn.none = x at *
 have HX := Zd hx
 clear hx
 unfold chnV at HDO
 go_upto_region 2 with fail
 go_cut [9, 10, 11, 12] (fun s9 s10 s11 s12 wx => OneCut w1 q s9 s10 s11 s12 wx)
 case first =>
  have HSC : Hid (∀ W', Below w1.heap.size w1 W' -> (fun w' => w'.cell? ⟨g, 1, none⟩ = some (.slice (some ⟨gc, 0, none⟩) h.chans.length h.cc) /\ w'.cell? ⟨g, 2, none⟩ = some (.slice h.WA h.waits.length h.wc) /\ w'.cell? ⟨gc, k * 5, none⟩ = some (.int .i64 x.gen) /\ w'.cell? ⟨gc, k * 5 + 1, none⟩ = some (.int .i64 x.cap) /\ w'.cell? ⟨gc, k * 5 + 2, none⟩ = some (.bool x.used) /\ w'.cell? ⟨gc, k * 5 + 3, none⟩ = some (.bool x.closed) /\ w'.cell? ⟨gc, k * 5 + 4, none⟩ = some (.slice x.A x.buf.length x.c) /\ w'.cell? ⟨w.heap.size, 0, none⟩ = some (.int .i64 kd) /\ w'.cell? ⟨w.heap.size, 1, none⟩ = some (.int .i64 handle) /\ w'.cell? ⟨w.heap.size, 2, none⟩ = some (.int .i64 kv)) W') := Zd (fun W' hb => ⟨(hb.cell (p := ⟨g, 1, none⟩) gl1).trans s1, (hb.cell (p := ⟨g, 2, none⟩) gl1).trans s2, (hb.cell (p := ⟨gc, k * 5, none⟩) hgc2).trans c0, (hb.cell (p := ⟨gc, k * 5 + 1, none⟩) hgc2).trans c1, (hb.cell (p := ⟨gc, k * 5 + 2, none⟩) hgc2).trans c2, (hb.cell (p := ⟨gc, k * 5 + 3, none⟩) hgc2).trans c3, (hb.cell (p := ⟨gc, k * 5 + 4, none⟩) hgc2).trans c4, (hb.cell (p := ⟨w.heap.size, 0, none⟩) gk1).trans k0, (hb.cell (p := ⟨w.heap.size, 1, none⟩) gk1).trans k1, (hb.cell (p := ⟨w.heap.size, 2, none⟩) gk1).trans k2⟩)
  refine wp_region_held_drew (S := fun w' => w'.cell? ⟨g, 1, none⟩ = some (.slice (some ⟨gc, 0, none⟩) h.chans.length h.cc) /\ w'.cell? ⟨g, 2, none⟩ = some (.slice h.WA h.waits.length h.wc) /\ w'.cell? ⟨gc, k * 5, none⟩ = some (.int .i64 x.gen) /\ w'.cell? ⟨gc, k * 5 + 1, none⟩ = some (.int .i64 x.cap) /\ w'.cell? ⟨gc, k * 5 + 2, none⟩ = some (.bool x.used) /\ w'.cell? ⟨gc, k * 5 + 3, none⟩ = some (.bool x.closed) /\ w'.cell? ⟨gc, k * 5 + 4, none⟩ = some (.slice x.A x.buf.length x.c) /\ w'.cell? ⟨w.heap.size, 0, none⟩ = some (.int .i64 kd) /\ w'.cell? ⟨w.heap.size, 1, none⟩ = some (.int .i64 handle) /\ w'.cell? ⟨w.heap.size, 2, none⟩ = some (.int .i64 kv)) (by kernel_rfl) (HSC.out _ (Below.refl w1.heap.size w1).drew) (fun hHeld => ?_)
  refine tkHp 0 (.pointer (some ⟨g, 0, none⟩)) rfl hHeld ?_
  refine tkHp 1 (.pointer (some ⟨g, 0, none⟩)) rfl hHeld ?_
  refine tkHp 2 (.pointer (some ⟨g, 0, none⟩)) rfl hHeld ?_
  refine tkHp 3 (.pointer (some ⟨g, 1, none⟩)) rfl hHeld ?_
  refine tkH 4 (.slice (some ⟨gc, 0, none⟩) h.chans.length h.cc) rfl (Or.inl ⟨by rfl, fun w hSw => by obtain ⟨h1, h2, h3, h4, h5, h6, h7, h8, h9, h10⟩ := hSw; go_simp⟩) hHeld ?_
  refine tkHp 5 (.int .i64 (k : Int)) rfl hHeld ?_
  refine tkHp 6 (.pointer (some ⟨gc, k * 5, none⟩)) rfl hHeld ?_
  refine tkH 7 (.agg #[.int .i64 x.gen, .int .i64 x.cap, .bool x.used, .bool x.closed, .slice x.A x.buf.length x.c]) rfl (Or.inl ⟨by rfl, fun w hSw => by obtain ⟨h1, h2, h3, h4, h5, h6, h7, h8, h9, h10⟩ := hSw; go_simp⟩) hHeld ?_
  refine tkHp 8 (.pointer (some ⟨w.heap.size, 1, none⟩)) rfl hHeld ?_
  refine tkH 9 (.int .i64 handle) rfl (Or.inl ⟨by rfl, fun w hSw => by obtain ⟨h1, h2, h3, h4, h5, h6, h7, h8, h9, h10⟩ := hSw; go_simp⟩) hHeld ?_
  refine tkHp 10 (.pointer (some ⟨g, 0, none⟩)) rfl hHeld ?_
  refine tkHp 11 (.pointer (some ⟨g, 0, none⟩)) rfl hHeld ?_
  refine tkHp 12 (.pointer (some ⟨g, 0, none⟩)) rfl hHeld ?_
  refine tkHp 13 (.pointer (some ⟨g, 2, none⟩)) rfl hHeld ?_
  refine tkH 14 (.slice h.WA h.waits.length h.wc) rfl (Or.inl ⟨by rfl, fun w hSw => by obtain ⟨h1, h2, h3, h4, h5, h6, h7, h8, h9, h10⟩ := hSw; go_simp⟩) hHeld ?_
  refine tkHp 15 (.pointer (some ⟨w.heap.size, 0, none⟩)) rfl hHeld ?_
  refine tkH 16 (.int .i64 kd) rfl (Or.inl ⟨by rfl, fun w hSw => by obtain ⟨h1, h2, h3, h4, h5, h6, h7, h8, h9, h10⟩ := hSw; go_simp⟩) hHeld ?_
  refine tkHp 17 (.pointer (some ⟨w.heap.size, 2, none⟩)) rfl hHeld ?_
  refine tkH 18 (.int .i64 kv) rfl (Or.inl ⟨by rfl, fun w hSw => by obtain ⟨h1, h2, h3, h4, h5, h6, h7, h8, h9, h10⟩ := hSw; go_simp⟩) hHeld ?_
  try simp only [Nrq, Nrs]
  have HB0 := Zd ((Below.refl w1.heap.size w1).drew)
  generalize w1.drew = V at *
  have HB := HB0
  clear HB0
  all_goals first
   | (refine wpAnyH_ready (rs := [19, 25, 26]) (by decide +kernel) (by simp) ?_; refine AllReadyH.cons rfl (fun K hK => ?_) (AllReadyH.cons rfl (fun K hK => ?_) (AllReadyH.cons rfl (fun K hK => ?_) AllReadyH.nil)))
  all_goals
   rw [if_pos (by rfl)]
   try simp only [Nrq]
   go_simp
   clear hHeld
   first
    | (refine (HDO.out V (HB1.out.trans (HB.out.mono HB1.out.size))).mono ?_
       rintro er V2 ⟨y, A, d, l, TA, tc, rfl, hyp, hyb, hlm, hlw, htd, hb5⟩
       have HYP := Zd hyp
       have HLM := Zd hlm
       have HYB := Zd (hyb.lower HB.out.size)
       have HLW := Zd (hlw.lower HB.out.size)
       have HTD := Zd (own_lower htd HB.out.size)
       try replace HT := Zd (HT.out.below hb5 HT.out.lt)
       try replace HQ := Zd (HQ.out.below hb5 HQ.out.lt)
       replace HB := Zd (btr HB.out hb5)
       clear hyp hyb hlm hlw htd hb5
       unfold chnV
       go_wp2_with fail
       refine hK.out _ _ (HSC.out _ HB.out) (fun hHeld => ?_)
       clear hK K
       try simp only [Nrq, Nrs]
       refine tkHp 20 (.tuple #[.agg #[.int .i64 y.gen, .int .i64 y.cap, .bool y.used, .bool y.closed, .slice y.A y.buf.length y.c], .slice A l.length d, .agg #[.int .i64 q.r.seq, .int .i64 q.r.case_, .int .i64 q.r.code, .int .i64 q.r.value], .slice TA q.told.length tc]) rfl hHeld ?_
       refine tkHp 21 (.agg #[.int .i64 y.gen, .int .i64 y.cap, .bool y.used, .bool y.closed, .slice y.A y.buf.length y.c]) rfl hHeld ?_
       refine tkHp 22 (.slice A l.length d) rfl hHeld ?_
       refine tkHp 23 (.agg #[.int .i64 q.r.seq, .int .i64 q.r.case_, .int .i64 q.r.code, .int .i64 q.r.value]) rfl hHeld ?_
       refine tkHp 24 (.slice TA q.told.length tc) rfl hHeld ?_
       try simp only [Nrq, Nrs])
    | (have hal := (Below.refl V.heap.size V).alloc (Nat.le_refl _) (.cells #[.int .i64 0, .int .i64 0, .bool false, .bool false, .slice none 0 0] 124)
       refine hK.out _ (V.alloc (.cells #[.int .i64 0, .int .i64 0, .bool false, .bool false, .slice none 0 0] 124)) (HSC.out _ (btr HB.out hal)) (fun hHeld => ?_)
       clear hK K
       try replace HQ := Zd (HQ.out.below hal HQ.out.lt)
       try replace HYB := Zd (OwnBuf.below HYB.out hal)
       try replace HLW := Zd (HLW.out.below hal)
       try replace HTD := Zd (own_below HTD.out hal)
       have HT : Hid (Blk (V.alloc (.cells #[.int .i64 0, .int .i64 0, .bool false, .bool false, .slice none 0 0] 124)) V.heap.size 124 [.int .i64 0, .int .i64 0, .bool false, .bool false, .slice none 0 0]) := Zd (blk_new rfl)
       have hggt : w1.heap.size <= V.heap.size := HB.out.size
       replace HB := Zd (btr HB.out hal)
       clear hal
       generalize V.alloc (.cells #[.int .i64 0, .int .i64 0, .bool false, .bool false, .slice none 0 0] 124) = V2 at *
       generalize V.heap.size = gt at *)
    | (have hal := (Below.refl V.heap.size V).alloc (Nat.le_refl _) (.cells #[.int .i64 0, .int .i64 0, .int .i64 0, .int .i64 0] 42)
       refine hK.out _ (V.alloc (.cells #[.int .i64 0, .int .i64 0, .int .i64 0, .int .i64 0] 42)) (HSC.out _ (btr HB.out hal)) (fun hHeld => ?_)
       clear hK K
       try replace HT := Zd (HT.out.below hal HT.out.lt)
       try replace HYB := Zd (OwnBuf.below HYB.out hal)
       try replace HLW := Zd (HLW.out.below hal)
       try replace HTD := Zd (own_below HTD.out hal)
       have HQ : Hid (Blk (V.alloc (.cells #[.int .i64 0, .int .i64 0, .int .i64 0, .int .i64 0] 42)) V.heap.size 42 [.int .i64 0, .int .i64 0, .int .i64 0, .int .i64 0]) := Zd (blk_new rfl)
       have hggr : w1.heap.size <= V.heap.size := HB.out.size
       replace HB := Zd (btr HB.out hal)
       clear hal
       generalize V.alloc (.cells #[.int .i64 0, .int .i64 0, .int .i64 0, .int .i64 0] 42) = V2 at *
       generalize V.heap.size = gr at *)
   clear V
   rename World => V
   try simp only [Nrq, Nrs]
  all_goals first
   | (refine wpAnyH_ready (rs := [19, 25]) (by decide +kernel) (by simp) ?_; refine AllReadyH.cons rfl (fun K hK => ?_) (AllReadyH.cons rfl (fun K hK => ?_) AllReadyH.nil))
   | (refine wpAnyH_ready (rs := [19, 26]) (by decide +kernel) (by simp) ?_; refine AllReadyH.cons rfl (fun K hK => ?_) (AllReadyH.cons rfl (fun K hK => ?_) AllReadyH.nil))
   | (refine wpAnyH_ready (rs := [25, 26]) (by decide +kernel) (by simp) ?_; refine AllReadyH.cons rfl (fun K hK => ?_) (AllReadyH.cons rfl (fun K hK => ?_) AllReadyH.nil))
  all_goals
   rw [if_pos (by rfl)]
   try simp only [Nrq]
   go_simp
   clear hHeld
   first
    | (refine (HDO.out V (HB1.out.trans (HB.out.mono HB1.out.size))).mono ?_
       rintro er V2 ⟨y, A, d, l, TA, tc, rfl, hyp, hyb, hlm, hlw, htd, hb5⟩
       have HYP := Zd hyp
       have HLM := Zd hlm
       have HYB := Zd (hyb.lower HB.out.size)
       have HLW := Zd (hlw.lower HB.out.size)
       have HTD := Zd (own_lower htd HB.out.size)
       try replace HT := Zd (HT.out.below hb5 HT.out.lt)
       try replace HQ := Zd (HQ.out.below hb5 HQ.out.lt)
       replace HB := Zd (btr HB.out hb5)
       clear hyp hyb hlm hlw htd hb5
       unfold chnV
       go_wp2_with fail
       refine hK.out _ _ (HSC.out _ HB.out) (fun hHeld => ?_)
       clear hK K
       try simp only [Nrq, Nrs]
       refine tkHp 20 (.tuple #[.agg #[.int .i64 y.gen, .int .i64 y.cap, .bool y.used, .bool y.closed, .slice y.A y.buf.length y.c], .slice A l.length d, .agg #[.int .i64 q.r.seq, .int .i64 q.r.case_, .int .i64 q.r.code, .int .i64 q.r.value], .slice TA q.told.length tc]) rfl hHeld ?_
       refine tkHp 21 (.agg #[.int .i64 y.gen, .int .i64 y.cap, .bool y.used, .bool y.closed, .slice y.A y.buf.length y.c]) rfl hHeld ?_
       refine tkHp 22 (.slice A l.length d) rfl hHeld ?_
       refine tkHp 23 (.agg #[.int .i64 q.r.seq, .int .i64 q.r.case_, .int .i64 q.r.code, .int .i64 q.r.value]) rfl hHeld ?_
       refine tkHp 24 (.slice TA q.told.length tc) rfl hHeld ?_
       try simp only [Nrq, Nrs])
    | (have hal := (Below.refl V.heap.size V).alloc (Nat.le_refl _) (.cells #[.int .i64 0, .int .i64 0, .bool false, .bool false, .slice none 0 0] 124)
       refine hK.out _ (V.alloc (.cells #[.int .i64 0, .int .i64 0, .bool false, .bool false, .slice none 0 0] 124)) (HSC.out _ (btr HB.out hal)) (fun hHeld => ?_)
       clear hK K
       try replace HQ := Zd (HQ.out.below hal HQ.out.lt)
       try replace HYB := Zd (OwnBuf.below HYB.out hal)
       try replace HLW := Zd (HLW.out.below hal)
       try replace HTD := Zd (own_below HTD.out hal)
       have HT : Hid (Blk (V.alloc (.cells #[.int .i64 0, .int .i64 0, .bool false, .bool false, .slice none 0 0] 124)) V.heap.size 124 [.int .i64 0, .int .i64 0, .bool false, .bool false, .slice none 0 0]) := Zd (blk_new rfl)
       have hggt : w1.heap.size <= V.heap.size := HB.out.size
       replace HB := Zd (btr HB.out hal)
       clear hal
       generalize V.alloc (.cells #[.int .i64 0, .int .i64 0, .bool false, .bool false, .slice none 0 0] 124) = V2 at *
       generalize V.heap.size = gt at *)
    | (have hal := (Below.refl V.heap.size V).alloc (Nat.le_refl _) (.cells #[.int .i64 0, .int .i64 0, .int .i64 0, .int .i64 0] 42)
       refine hK.out _ (V.alloc (.cells #[.int .i64 0, .int .i64 0, .int .i64 0, .int .i64 0] 42)) (HSC.out _ (btr HB.out hal)) (fun hHeld => ?_)
       clear hK K
       try replace HT := Zd (HT.out.below hal HT.out.lt)
       try replace HYB := Zd (OwnBuf.below HYB.out hal)
       try replace HLW := Zd (HLW.out.below hal)
       try replace HTD := Zd (own_below HTD.out hal)
       have HQ : Hid (Blk (V.alloc (.cells #[.int .i64 0, .int .i64 0, .int .i64 0, .int .i64 0] 42)) V.heap.size 42 [.int .i64 0, .int .i64 0, .int .i64 0, .int .i64 0]) := Zd (blk_new rfl)
       have hggr : w1.heap.size <= V.heap.size := HB.out.size
       replace HB := Zd (btr HB.out hal)
       clear hal
       generalize V.alloc (.cells #[.int .i64 0, .int .i64 0, .int .i64 0, .int .i64 0] 42) = V2 at *
       generalize V.heap.size = gr at *)
   clear V
   rename World => V
   try simp only [Nrq, Nrs]
  all_goals first
   | (refine wpAnyH_ready (rs := [19]) (by decide +kernel) (by simp) ?_; refine AllReadyH.cons rfl (fun K hK => ?_) AllReadyH.nil)
   | (refine wpAnyH_ready (rs := [25]) (by decide +kernel) (by simp) ?_; refine AllReadyH.cons rfl (fun K hK => ?_) AllReadyH.nil)
   | (refine wpAnyH_ready (rs := [26]) (by decide +kernel) (by simp) ?_; refine AllReadyH.cons rfl (fun K hK => ?_) AllReadyH.nil)
  all_goals
   rw [if_pos (by rfl)]
   try simp only [Nrq]
   go_simp
   clear hHeld
   first
    | (refine (HDO.out V (HB1.out.trans (HB.out.mono HB1.out.size))).mono ?_
       rintro er V2 ⟨y, A, d, l, TA, tc, rfl, hyp, hyb, hlm, hlw, htd, hb5⟩
       have HYP := Zd hyp
       have HLM := Zd hlm
       have HYB := Zd (hyb.lower HB.out.size)
       have HLW := Zd (hlw.lower HB.out.size)
       have HTD := Zd (own_lower htd HB.out.size)
       try replace HT := Zd (HT.out.below hb5 HT.out.lt)
       try replace HQ := Zd (HQ.out.below hb5 HQ.out.lt)
       replace HB := Zd (btr HB.out hb5)
       clear hyp hyb hlm hlw htd hb5
       unfold chnV
       go_wp2_with fail
       refine hK.out _ _ (HSC.out _ HB.out) (fun hHeld => ?_)
       clear hK K
       try simp only [Nrq, Nrs]
       refine tkHp 20 (.tuple #[.agg #[.int .i64 y.gen, .int .i64 y.cap, .bool y.used, .bool y.closed, .slice y.A y.buf.length y.c], .slice A l.length d, .agg #[.int .i64 q.r.seq, .int .i64 q.r.case_, .int .i64 q.r.code, .int .i64 q.r.value], .slice TA q.told.length tc]) rfl hHeld ?_
       refine tkHp 21 (.agg #[.int .i64 y.gen, .int .i64 y.cap, .bool y.used, .bool y.closed, .slice y.A y.buf.length y.c]) rfl hHeld ?_
       refine tkHp 22 (.slice A l.length d) rfl hHeld ?_
       refine tkHp 23 (.agg #[.int .i64 q.r.seq, .int .i64 q.r.case_, .int .i64 q.r.code, .int .i64 q.r.value]) rfl hHeld ?_
       refine tkHp 24 (.slice TA q.told.length tc) rfl hHeld ?_
       try simp only [Nrq, Nrs])
    | (have hal := (Below.refl V.heap.size V).alloc (Nat.le_refl _) (.cells #[.int .i64 0, .int .i64 0, .bool false, .bool false, .slice none 0 0] 124)
       refine hK.out _ (V.alloc (.cells #[.int .i64 0, .int .i64 0, .bool false, .bool false, .slice none 0 0] 124)) (HSC.out _ (btr HB.out hal)) (fun hHeld => ?_)
       clear hK K
       try replace HQ := Zd (HQ.out.below hal HQ.out.lt)
       try replace HYB := Zd (OwnBuf.below HYB.out hal)
       try replace HLW := Zd (HLW.out.below hal)
       try replace HTD := Zd (own_below HTD.out hal)
       have HT : Hid (Blk (V.alloc (.cells #[.int .i64 0, .int .i64 0, .bool false, .bool false, .slice none 0 0] 124)) V.heap.size 124 [.int .i64 0, .int .i64 0, .bool false, .bool false, .slice none 0 0]) := Zd (blk_new rfl)
       have hggt : w1.heap.size <= V.heap.size := HB.out.size
       replace HB := Zd (btr HB.out hal)
       clear hal
       generalize V.alloc (.cells #[.int .i64 0, .int .i64 0, .bool false, .bool false, .slice none 0 0] 124) = V2 at *
       generalize V.heap.size = gt at *)
    | (have hal := (Below.refl V.heap.size V).alloc (Nat.le_refl _) (.cells #[.int .i64 0, .int .i64 0, .int .i64 0, .int .i64 0] 42)
       refine hK.out _ (V.alloc (.cells #[.int .i64 0, .int .i64 0, .int .i64 0, .int .i64 0] 42)) (HSC.out _ (btr HB.out hal)) (fun hHeld => ?_)
       clear hK K
       try replace HT := Zd (HT.out.below hal HT.out.lt)
       try replace HYB := Zd (OwnBuf.below HYB.out hal)
       try replace HLW := Zd (HLW.out.below hal)
       try replace HTD := Zd (own_below HTD.out hal)
       have HQ : Hid (Blk (V.alloc (.cells #[.int .i64 0, .int .i64 0, .int .i64 0, .int .i64 0] 42)) V.heap.size 42 [.int .i64 0, .int .i64 0, .int .i64 0, .int .i64 0]) := Zd (blk_new rfl)
       have hggr : w1.heap.size <= V.heap.size := HB.out.size
       replace HB := Zd (btr HB.out hal)
       clear hal
       generalize V.alloc (.cells #[.int .i64 0, .int .i64 0, .int .i64 0, .int .i64 0] 42) = V2 at *
       generalize V.heap.size = gr at *)
   clear V
   rename World => V
   try simp only [Nrq, Nrs]
  all_goals
   have hne : gt ≠ gr := fun e => by
    subst e
    have h1 : V.heap[gt]? = some (.cells _ 124 (0, 0)) := HT.out
    have h2 : V.heap[gt]? = some (.cells _ 42 (0, 0)) := HQ.out
    rw [h1] at h2
    simp only [Option.some.injEq, Obj.cells.injEq] at h2
    exact absurd h2.2.1 (by decide)
   have hne' := hne.symm
   refine wpAnyH_ready (rs := [27]) (by kernel_rfl) (by simp) ?_
   refine AllReadyH.cons rfl (fun K hK => ?_) AllReadyH.nil
   rw [if_pos (by rfl)]
   have p0 := HT.out.cell (i := 0) rfl
   have p0f := HT.out.frozen 0
   have p1 := HT.out.cell (i := 1) rfl
   have p1f := HT.out.frozen 1
   have p2 := HT.out.cell (i := 2) rfl
   have p2f := HT.out.frozen 2
   have p3 := HT.out.cell (i := 3) rfl
   have p3f := HT.out.frozen 3
   have p4 := HT.out.cell (i := 4) rfl
   have p4f := HT.out.frozen 4
   go_simp
   have key : ∀ X : World, X = (((((V.setCell ⟨gt, 0, none⟩ (.int .i64 y.gen)).setCell ⟨gt, 1, none⟩ (.int .i64 y.cap)).setCell ⟨gt, 2, none⟩ (.bool y.used)).setCell ⟨gt, 3, none⟩ (.bool y.closed)).setCell ⟨gt, 4, none⟩ (.slice y.A y.buf.length y.c)) -> Blk X gt 124 y.cells /\ Blk X gr 42 [.int .i64 0, .int .i64 0, .int .i64 0, .int .i64 0] /\ OwnBuf w1.heap.size X y /\ OwnWts w1.heap.size X A l.length d l /\ X.ownsRow w1.heap.size 233 5 (.slice TA q.told.length tc) q.told.length (rows q.told) /\ Below w1.heap.size w1 X := by
    rintro X rfl
    exact ⟨chn_put HT.out, ((((HQ.out.other hne' 0 _).other hne' 1 _).other hne' 2 _).other hne' 3 _).other hne' 4 _, own_put5 HYB.out HT.out (by decide), HLW.out.box5 HT.out (by decide) (by decide), own_put5 HTD.out HT.out (by decide), below5 HB.out hggt⟩
   obtain ⟨q1, q2, q3, q4, q5, q6⟩ := key _ rfl
   have HTV1 := Zd q1
   have HQV1 := Zd q2
   have HYBV1 := Zd q3
   have HLWV1 := Zd q4
   have HTDV1 := Zd q5
   have HBV1 := Zd q6
   clear key q1 q2 q3 q4 q5 q6
   clear p0 p0f p1 p1f p2 p2f p3 p3f p4 p4f
   generalize (((((V.setCell ⟨gt, 0, none⟩ (.int .i64 y.gen)).setCell ⟨gt, 1, none⟩ (.int .i64 y.cap)).setCell ⟨gt, 2, none⟩ (.bool y.used)).setCell ⟨gt, 3, none⟩ (.bool y.closed)).setCell ⟨gt, 4, none⟩ (.slice y.A y.buf.length y.c)) = V1 at *
   refine hK.out _ _ (HSC.out _ HBV1.out) (fun hHeld => ?_)
   clear hK K
   try simp only [Nrq, Nrs]
   refine tkHp 28 (.slice A l.length d) rfl hHeld ?_
   try simp only [Nrq, Nrs]
   refine wpAnyH_ready (rs := [29]) (by kernel_rfl) (by simp) ?_
   refine AllReadyH.cons rfl (fun K hK => ?_) AllReadyH.nil
   rw [if_pos (by rfl)]
   have p0 := HQV1.out.cell (i := 0) rfl
   have p0f := HQV1.out.frozen 0
   have p1 := HQV1.out.cell (i := 1) rfl
   have p1f := HQV1.out.frozen 1
   have p2 := HQV1.out.cell (i := 2) rfl
   have p2f := HQV1.out.frozen 2
   have p3 := HQV1.out.cell (i := 3) rfl
   have p3f := HQV1.out.frozen 3
   go_simp
   have key : ∀ X : World, X = ((((V1.setCell ⟨gr, 0, none⟩ (.int .i64 q.r.seq)).setCell ⟨gr, 1, none⟩ (.int .i64 q.r.case_)).setCell ⟨gr, 2, none⟩ (.int .i64 q.r.code)).setCell ⟨gr, 3, none⟩ (.int .i64 q.r.value)) -> Blk X gt 124 y.cells /\ Blk X gr 42 q.r.cells /\ OwnBuf w1.heap.size X y /\ OwnWts w1.heap.size X A l.length d l /\ X.ownsRow w1.heap.size 233 5 (.slice TA q.told.length tc) q.told.length (rows q.told) /\ Below w1.heap.size w1 X := by
    rintro X rfl
    exact ⟨(((HTV1.out.other hne 0 _).other hne 1 _).other hne 2 _).other hne 3 _, put4 HQV1.out, own_put4 HYBV1.out HQV1.out (by decide), HLWV1.out.box4 HQV1.out (by decide) (by decide), own_put4 HTDV1.out HQV1.out (by decide), below4 HBV1.out hggr⟩
   obtain ⟨q1, q2, q3, q4, q5, q6⟩ := key _ rfl
   have HTV2 := Zd q1
   have HQV2 := Zd q2
   have HYBV2 := Zd q3
   have HLWV2 := Zd q4
   have HTDV2 := Zd q5
   have HBV2 := Zd q6
   clear key q1 q2 q3 q4 q5 q6
   clear p0 p0f p1 p1f p2 p2f p3 p3f
   generalize ((((V1.setCell ⟨gr, 0, none⟩ (.int .i64 q.r.seq)).setCell ⟨gr, 1, none⟩ (.int .i64 q.r.case_)).setCell ⟨gr, 2, none⟩ (.int .i64 q.r.code)).setCell ⟨gr, 3, none⟩ (.int .i64 q.r.value)) = V2 at *
   refine hK.out _ _ (HSC.out _ HBV2.out) (fun hHeld => ?_)
   clear hK K
   try simp only [Nrq, Nrs]
   refine tkHp 30 (.slice TA q.told.length tc) rfl hHeld ?_
   try simp only [Nrq, Nrs]
   clear hHeld
   refine wpAnyH_done (by kernel_rfl) ?_ _
   go_wp2_with fail
   go_meet
   exact ⟨gt, gr, y, A, d, l, TA, tc, rfl, rfl, rfl, rfl, HYP.out, HLM.out, hggt, hggr, HTV2.out, HQV2.out, HYBV2.out, HLWV2.out, HTDV2.out, HBV2.out⟩
 case rest =>
  unfold OneCut at hcut
  obtain ⟨gt, gr, y, A, d, l, TA, tc, rfl, rfl, rfl, rfl, hyp, hlm, hgt, hgr, hbt, hbr, hyb, hlw, htd, hbc⟩ := hcut
  have HYP := Zd hyp
  have HLM := Zd hlm
  have HBT := Zd hbt
  have HBR := Zd hbr
  have HYB := Zd (hyb.lower (show base <= w1.heap.size by omega))
  have HLW := Zd (hlw.lower (show base <= w1.heap.size by omega))
  have HTD := Zd htd
  have HBC := Zd (btr HB1.out hbc)
  have HSX := Zd (HH.out _ HBC.out)
  have HZX := Zd (HZ1.out.below hbc HZ1.out.lt)
  have HCX := Zd (own_below HC.out hbc)
  clear hyp hlm hbt hbr hyb hlw htd s0 s1 s2 s3 c0 c1 c2 c3 c4 k0 k1 k2 HDO
  obtain ⟨s0, s1, s2, s3⟩ := HSX.out.hal
  have s2f := HSX.out.box.frozen 2
  rw [HCA.out] at s1
  obtain ⟨c0, c1, c2, c3, c4⟩ := chn_cells (k := k) (x := x) (own_cellAt HCX.out) HK3.out HX.out
  simp only [Nat.zero_add] at c0 c1 c2 c3 c4
  have cf := own_free HCX.out
  have y0 := HBT.out.cell (i := 0) rfl
  have y1 := HBT.out.cell (i := 1) rfl
  have y2 := HBT.out.cell (i := 2) rfl
  have y3 := HBT.out.cell (i := 3) rfl
  have y4 := HBT.out.cell (i := 4) rfl
  have n1 : g ≠ gc := by have h1 := own_blk_neL HCX.out HSX.out.box (by decide); simpa [Value.ownBlock] using h1
  have n1' := n1.symm
  have n2 : gt ≠ gc := by omega
  have n2' := n2.symm
  have n3 : gt ≠ g := by omega
  have n3' := n3.symm
  have hcn : w1.heap.size <= wc.heap.size := hbc.size
  clear hbc
  go_upto_region 3 with fail
  go_region
  have HXC := Zd (HSX.out.setChan HCA.out HK3.out y HYB.out)
  have HXW := Zd (HXC.out.1.setWaits (HLW.out.sets HCX.out (by decide) (by decide) (k * 5) (Chn.cells y)))
  have key : ∀ X : World, X = ((((((wc.setCell ⟨gc, k * 5, none⟩ (.int .i64 y.gen)).setCell ⟨gc, k * 5 + 1, none⟩ (.int .i64 y.cap)).setCell ⟨gc, k * 5 + 2, none⟩ (.bool y.used)).setCell ⟨gc, k * 5 + 3, none⟩ (.bool y.closed)).setCell ⟨gc, k * 5 + 4, none⟩ (.slice y.A y.buf.length y.c)).setCell ⟨g, 2, none⟩ (.slice A l.length d)) -> HSt base g X.drew ⟨h.ticket, h.CA, h.cc, h.chans.set k y, A, d, l, h.DA, h.dc, h.done⟩ c t n /\ Below base wc X.drew /\ X.drew.ownsRow w1.heap.size 233 5 (.slice TA q.told.length tc) q.told.length (rows q.told) /\ Blk X.drew (w.heap.size + 1) 42 [.int .i64 0, .int .i64 0, .int .i64 0, .int .i64 0] /\ Blk X.drew gr 42 q.r.cells /\ HKeeps g h w X.drew := by
   rintro X rfl
   exact ⟨(show HSt base g _ _ c t n from HXW.out.1).below (Below.refl _ _).drew, (HXC.out.2.trans HXW.out.2).drew, own_below (own_ty (own_sets HTD.out HCX.out (by decide) (k * 5) (Chn.cells y)) HXC.out.1.box (by decide) 2 _) (Below.refl _ _).drew,
    Blk.drew ((blk_sets HZX.out HCX.out (by decide) (k * 5) (Chn.cells y)).other (Ne.symm hg2) 2 _), Blk.drew ((blk_sets HBR.out HCX.out (by decide) (k * 5) (Chn.cells y)).other (by omega) 2 _),
    (((HKeeps.of HBC.out (Nat.le_refl _)).set5 (.inr (.inl (.inl (show Value.ownBlock (.slice h.CA h.chans.length h.cc) = some gc by rw [HCA.out]; rfl)))) _ _ _ _ _ _ _ _ _ _).set (.inl rfl) 2 _).drew⟩
  obtain ⟨hs6, hb6, ht6, hz6', hr6, hq6⟩ := key _ rfl
  have HS6 := Zd hs6
  have HB6 := Zd hb6
  have HT6 := Zd ht6
  have HZ6 := Zd hz6'
  have HR6 := Zd hr6
  have HQ6 := Zd hq6
  clear key hs6 hb6 ht6 hz6' hr6 hq6 s0 s1 s2 s3 s2f c0 c1 c2 c3 c4 cf y0 y1 y2 y3 y4 n1 n1' n2 n2' n3 n3' HXC HXW
  generalize ((((((wc.setCell ⟨gc, k * 5, none⟩ (.int .i64 y.gen)).setCell ⟨gc, k * 5 + 1, none⟩ (.int .i64 y.cap)).setCell ⟨gc, k * 5 + 2, none⟩ (.bool y.used)).setCell ⟨gc, k * 5 + 3, none⟩ (.bool y.closed)).setCell ⟨gc, k * 5 + 4, none⟩ (.slice y.A y.buf.length y.c)).setCell ⟨g, 2, none⟩ (.slice A l.length d)).drew = W6 at *
  have hz6 := HZ6.out.lt
  have HBS := Zd (show base <= W6.heap.size by omega)
  have HTE : Hid (Calls Tryz.prog 201 #[.pointer (some ⟨g, 0, none⟩), .slice TA q.told.length tc] W6 (fun e w' => e = .returned (.tuple #[]) /\ HSt base g w' ⟨h.ticket, h.CA, h.cc, h.chans.set k y, A, d, l, h.DA, h.dc, tellS h.done q.told⟩ c t n /\ W6.grownBy w' (Value.ownBlock (.slice h.DA h.done.length h.dc)))) := Zd (hTell_any base g w1.heap.size _ c t n TA tc q.told W6 HS6.out HF.out.df HT6.out HTW.out)
  have HBB := Zd ((HBC.out.mono (by omega : base <= w.heap.size)).trans HB6.out)
  have hgr2 : w.heap.size <= gr := by omega
  have hne : gr ≠ w.heap.size + 1 := by omega
  have hne' := hne.symm
  obtain ⟨⟨rs, rc, rd, rv⟩, hqr⟩ : ∃ r : Resr, r = q.r := ⟨_, rfl⟩
  have HQR := Zd hqr
  rw [<- hqr] at HR6
  clear hqr
  go_wp2_with (go_at_call 201
               refine HTE.out.mono ?_
               rintro er w7 ⟨rfl, hs7, hg7⟩
               have HS7 := Zd hs7
               have HZ7 := Zd (blk_grown HZ6.out hg7 (own_notIn HO.out.own.dr (Nat.le_succ _)))
               have HR7 := Zd (blk_grown HR6.out hg7 (own_notIn HO.out.own.dr hgr2))
               have HB7 := Zd (HBB.out.grown hg7 HBS.out (own_ge HO.out.own.dr))
               have HQ7 := Zd (HQ6.out.grown (Nat.le_of_lt (Nat.lt_of_succ_lt hz6)) (fun k hk => .inl (.inr hk)) hg7)
               clear hs7 hg7
               have z0 := HZ7.out.cell (i := 0) rfl
               have z0f := HZ7.out.frozen 0
               have z1 := HZ7.out.cell (i := 1) rfl
               have z1f := HZ7.out.frozen 1
               have z2 := HZ7.out.cell (i := 2) rfl
               have z2f := HZ7.out.frozen 2
               have z3 := HZ7.out.cell (i := 3) rfl
               have z3f := HZ7.out.frozen 3
               have r0 := HR7.out.cell (i := 0) rfl
               have r1 := HR7.out.cell (i := 1) rfl
               have r1f := HR7.out.frozen 1
               have r2 := HR7.out.cell (i := 2) rfl
               have r3 := HR7.out.cell (i := 3) rfl)
  have HX8 := Zd (HS7.out.far1 (N := w.heap.size) (fun k hk => by
   simp only [tellS_len] at hk
   exact own_in HO.out.own.dr k hk) HR7.out hgr2 1 (.int .i64 wh))
  have HZ8 := Zd (HZ7.out.other hne' 1 (.int .i64 wh))
  refine bodyPost_ret (v := rsV ⟨rs, wh, rd, rv⟩) (ret_cell (g := w.heap.size + 1) rfl rfl (rsl_load (r := ⟨rs, wh, rd, rv⟩) (put4 HZ8.out))) rfl ?_
  rw [HR.out, <- HQR.out]
  have hb8 := below4 ((Below.refl w.heap.size w7).setCell (p := ⟨gr, 1, none⟩) hgr2 (.int .i64 wh)) (g := w.heap.size + 1) (Nat.le_succ _) (i := 0) (j := 1) (k := 2) (l := 3) (u := .int .i64 rs) (v := .int .i64 wh) (x := .int .i64 rd) (y := .int .i64 rv)
  have hfin := HX8.out.far4 (v0 := .int .i64 rs) (v1 := .int .i64 wh) (v2 := .int .i64 rd) (v3 := .int .i64 rv) (N := w.heap.size) (fun k hk => by
   simp only [tellS_len] at hk
   exact own_in HO.out.own.dr k hk) HZ8.out (Nat.le_succ _)
  refine ⟨_, rfl, ?_, hfin, HB7.out.trans (hb8.mono (by omega)), (HQ7.out.set (.inr (.inr hgr2)) 1 _).set4 (.inr (.inr (Nat.le_succ _))) 0 1 2 3 _ _ _ _, ⟨rfl, rfl, by simp, rfl, rfl, by simp [tellS_len]⟩⟩
  show (⟨_, (h.chans.set k y).map Chn.p, l.map Wtr.p, _⟩ : HallP) = _
  rw [HLM.out, List.map_set, HYP.out]
theorem all_bad {α : Type} (p : α -> Bool) (l : List α) (d : α) {k : Nat} (hk : k < l.length) (h : p (l.getD k d) = false) : l.all p = false := by
 rw [List.all_eq_false]
 exact ⟨l.getD k d, mem_getD hk, by rw [Bool.not_eq_true]; exact h⟩
theorem all_good {α : Type} (p : α -> Bool) (l : List α) (d : α) (h : ∀ j, j < l.length -> p (l.getD j d) = true) : l.all p = true := by
 rw [List.all_eq_true]
 intro x hx
 obtain ⟨j, hj, rfl⟩ := List.getElem_of_mem hx
 have := h j hj
 simpa [List.getD, hj] using this
theorem hCases_any (base g : Nat) (h : Hal) (c : Cfg) (t n : Int) (A : Option Addr) (cc : Nat) (l : List Cse) (w : World) (H : HSt base g w h c t n) (hf : h.chans.length <= 4096) (hr : Rd w A (rows l)) (hl : l.length <= 1048576) :
  Calls Tryz.prog 196 #[.pointer (some ⟨g, 0, none⟩), .slice A l.length cc] w fun e w' => e = .returned (.int .i64 (casesS (h.chans.map Chn.p) l)) /\ Below w.heap.size w w' := by
 have HH := Zd (fun W (hb : Below w.heap.size w W) => H.below hb)
 have HR := Zd hr
 have HFI := Zd (fun hd W (hb : Below w.heap.size w W) => hFind_any h hd W (H.below hb |>.own.cr |> own_rd) hf)
 have hgl := H.lt
 have HV : Hid (casesS (h.chans.map Chn.p) l = if l.length = 0 ∨ 3 < l.length then 1 else if l.all caseOk = false then 1 else if (l.all fun k => findB (h.chans.map Chn.p) k.handle) = false then 8 else 0) := Zd rfl
 unfold halV at HFI
 generalize casesS (h.chans.map Chn.p) l = R at *
 generalize hm : l.length = m at *
 have HM := Zd hm
 clear H hr hf hm
 by_cases h0 : m = 0
 . have d0 : ((m : Int) == 0) = true := by simp [h0]
   have HE : Hid (R = 1) := Zd (by rw [HV.out, if_pos (.inl h0)])
   clear HV h0
   go_enter Tryz.func196, Tryz.ntmps196
   go_wp2_with fail
   go_ret
   exact ⟨ret_int HE.out.symm, Below.refl _ _⟩
 have d0 : ((m : Int) == 0) = false := by simp [h0]
 by_cases h3 : 3 < m
 . have d3 : (3 : Int) < (m : Int) := by omega
   have HE : Hid (R = 1) := Zd (by rw [HV.out, if_pos (.inr h3)])
   clear HV h0
   go_enter Tryz.func196, Tryz.ntmps196
   go_wp2_with fail
   go_ret
   exact ⟨ret_int HE.out.symm, Below.refl _ _⟩
 have d3 : ¬ (3 : Int) < (m : Int) := by omega
 have HV2 : Hid (R = if l.all caseOk = false then 1 else if (l.all fun k => findB (h.chans.map Chn.p) k.handle) = false then 8 else 0) := Zd (by rw [HV.out, if_neg (by omega)])
 have hm1 : 0 < m := by omega
 clear HV h0
 obtain ⟨bC, oC, hA, hbC, hcC⟩ := HR.out.at_ (by rw [rows_length, HM.out]; exact Nat.mul_pos hm1 (by decide))
 subst hA
 have HCC := Zd hcC
 clear hcC
 go_enter Tryz.func196, Tryz.ntmps196
 go_wp2_with fail
 go_loopg [21] m (fun gg i wr => ∃ k : Nat, k <= m /\ gg = m - k /\ i = .int .i64 k /\ (∀ j, j < k -> caseOk (l.getD j Cse.none) = true) /\ Below w.heap.size w wr)
 case atStart => exact ⟨0, Nat.zero_le _, rfl, rfl, fun j hj => absurd hj (by omega), Below.refl _ _⟩
 case round =>
  obtain ⟨k, hk, hg, rfl, hok, hbr⟩ := hrel
  have HG := Zd hg
  have HOK := Zd hok
  have HBR := Zd hbr
  clear hg hok hbr
  by_cases hlt : k < m
  . generalize hx : l.getD k Cse.none = x
    obtain ⟨c0, c1, c2⟩ := cse_cells (w := wr) (b := bC) (o := oC) (fun j v hj => by rw [HBR.out.cell (p := ⟨bC, oC + j, none⟩) hbC]; exact HCC.out j v hj) (by rw [HM.out]; exact hlt) hx
    have HX := Zd hx
    clear hx
    have HBAD : Hid (caseOk x = false -> R = 1) := Zd (fun hb => by rw [HV2.out, if_pos (all_bad caseOk l Cse.none (k := k) (by rw [HM.out]; exact hlt) (by rw [HX.out]; exact hb))])
    have HGOOD : Hid (caseOk x = true -> ∀ j, j < k + 1 -> caseOk (l.getD j Cse.none) = true) := Zd (fun hb j hj => by
     by_cases e : j = k
     . rw [e, HX.out]; exact hb
     . exact HOK.out j (by omega))
    obtain ⟨kd, kh, kv⟩ := x
    simp only at c0 c1 c2
    have HBX : Hid (Blk (wr.alloc (.cells #[.int .i64 kd, .int .i64 kh, .int .i64 kv] 100)) wr.heap.size 100 [.int .i64 kd, .int .i64 kh, .int .i64 kv]) := Zd (blk_new rfl)
    have HAX := Zd (HBR.out.trans (((Below.refl wr.heap.size wr).alloc (Nat.le_refl _) (.cells #[.int .i64 kd, .int .i64 kh, .int .i64 kv] 100)).mono HBR.out.size))
    have q0 : (0 : Int) <= (k : Int) := by omega
    have q1 : (k : Int) < (m : Int) := by omega
    go_upto_region 6 with fail
    clear c0 c1 c2
    generalize wr.alloc (.cells #[.int .i64 kd, .int .i64 kh, .int .i64 kv] 100) = W1 at *
    have x0 := HBX.out.cell (i := 0) rfl
    have x2 := HBX.out.cell (i := 2) rfl
    have HCK : Hid (caseOk ⟨kd, kh, kv⟩ = (((kd == 1) || (kd == 2)) && decide (0 <= kv) && decide (kv <= 4294967295))) := Zd rfl
    by_cases e1 : kd = 1
    . subst e1
      by_cases e3 : kv < 0
      . have d4 : decide (kv < 0) = true := decide_eq_true e3
        go_wp2_with fail
        go_ret
        exact ⟨ret_int (HBAD.out (by rw [HCK.out]; rw [decide_eq_false (show ¬ 0 <= kv by omega)]; simp)).symm, HAX.out⟩
      have d4 : decide (kv < 0) = false := decide_eq_false e3
      by_cases e4 : 4294967295 < kv
      . have d5 : decide (4294967295 < kv) = true := decide_eq_true e4
        go_wp2_with fail
        go_ret
        exact ⟨ret_int (HBAD.out (by rw [HCK.out]; rw [decide_eq_false (show ¬ kv <= 4294967295 by omega)]; simp)).symm, HAX.out⟩
      have d5 : decide (4294967295 < kv) = false := decide_eq_false e4
      have HNX := Zd (HGOOD.out (by rw [HCK.out, show (((1 : Int) == 1) || ((1 : Int) == 2)) = true from rfl, decide_eq_true (show 0 <= kv by omega), decide_eq_true (show kv <= 4294967295 by omega)]; rfl))
      go_wp2_with fail
      go_roundg (m - (k + 1))
      case measure => rw [HG.out]; omega
      case rel => exact ⟨k + 1, by omega, rfl, by go_num, HNX.out, HAX.out⟩
    have b1 : (kd == 1) = false := by simp [e1]
    have n1 : (kd != 1) = true := by simp [bne, b1]
    by_cases e2 : kd = 2
    . subst e2
      by_cases e3 : kv < 0
      . have d4 : decide (kv < 0) = true := decide_eq_true e3
        go_wp2_with fail
        go_ret
        exact ⟨ret_int (HBAD.out (by rw [HCK.out]; rw [decide_eq_false (show ¬ 0 <= kv by omega)]; simp)).symm, HAX.out⟩
      have d4 : decide (kv < 0) = false := decide_eq_false e3
      by_cases e4 : 4294967295 < kv
      . have d5 : decide (4294967295 < kv) = true := decide_eq_true e4
        go_wp2_with fail
        go_ret
        exact ⟨ret_int (HBAD.out (by rw [HCK.out]; rw [decide_eq_false (show ¬ kv <= 4294967295 by omega)]; simp)).symm, HAX.out⟩
      have d5 : decide (4294967295 < kv) = false := decide_eq_false e4
      have HNX := Zd (HGOOD.out (by rw [HCK.out, show (((2 : Int) == 1) || ((2 : Int) == 2)) = true from rfl, decide_eq_true (show 0 <= kv by omega), decide_eq_true (show kv <= 4294967295 by omega)]; rfl))
      go_wp2_with fail
      go_roundg (m - (k + 1))
      case measure => rw [HG.out]; omega
      case rel => exact ⟨k + 1, by omega, rfl, by go_num, HNX.out, HAX.out⟩
    have b2 : (kd == 2) = false := by simp [e2]
    have n2 : (kd != 2) = true := by simp [bne, b2]
    go_wp2_with fail
    go_ret
    exact ⟨ret_int (HBAD.out (by rw [HCK.out]; rw [b1, b2]; rfl)).symm, HAX.out⟩
  . obtain rfl : k = m := by omega
    have HALL := Zd (all_good caseOk l Cse.none (fun j hj => HOK.out j (by rw [<- HM.out]; exact hj)))
    have HV3 : Hid (R = if (l.all fun k => findB (h.chans.map Chn.p) k.handle) = false then 8 else 0) := Zd (by rw [HV2.out, HALL.out, if_neg (by simp)])
    clear HV2 HOK HALL HG
    go_wp2_with fail
    clear hl
    generalize hP : (fun k : Cse => findB (h.chans.map Chn.p) k.handle) = PP at HV3
    have HPP := Zd hP
    clear hP
    go_loopg [46] k (fun gg i wr => ∃ j : Nat, j <= k /\ gg = k - j /\ i = .int .i64 j /\ (∀ j', j' < j -> PP (l.getD j' Cse.none) = true) /\ Below w.heap.size w wr)
    case atStart => exact ⟨0, Nat.zero_le _, rfl, rfl, fun j hj => absurd hj (by omega), HBR.out⟩
    case round =>
     obtain ⟨j, hj, hg, rfl, hok, hb2⟩ := hrel
     have HG := Zd hg
     have HOK := Zd hok
     have HB2 := Zd hb2
     clear hg hok hb2
     by_cases hlt2 : j < k
     . generalize hx : l.getD j Cse.none = x
       obtain ⟨c0, c1, c2⟩ := cse_cells (w := wr) (b := bC) (o := oC) (fun i v hi => by rw [HB2.out.cell (p := ⟨bC, oC + i, none⟩) hbC]; exact HCC.out i v hi) (by rw [HM.out]; exact hlt2) hx
       have HX := Zd hx
       clear hx
       have HBAD : Hid (PP x = false -> R = 8) := Zd (fun hb => by rw [HV3.out, if_pos (all_bad PP l Cse.none (k := j) (by rw [HM.out]; exact hlt2) (by rw [HX.out]; exact hb))])
       have HGOOD : Hid (PP x = true -> ∀ j', j' < j + 1 -> PP (l.getD j' Cse.none) = true) := Zd (fun hb j' hj' => by
        by_cases e : j' = j
        . rw [e, HX.out]; exact hb
        . exact HOK.out j' (by omega))
       obtain ⟨kd, kh, kv⟩ := x
       simp only at c0 c1 c2
       have HBX : Hid (Blk (wr.alloc (.cells #[.int .i64 kd, .int .i64 kh, .int .i64 kv] 100)) wr.heap.size 100 [.int .i64 kd, .int .i64 kh, .int .i64 kv]) := Zd (blk_new rfl)
       have HAX := Zd (HB2.out.trans (((Below.refl wr.heap.size wr).alloc (Nat.le_refl _) (.cells #[.int .i64 kd, .int .i64 kh, .int .i64 kv] 100)).mono HB2.out.size))
       have q0 : (0 : Int) <= (j : Int) := by omega
       have q1 : (j : Int) < (k : Int) := by omega
       go_upto_region 12 with fail
       clear c0 c1 c2
       have hgw : g < wr.heap.size := Nat.lt_of_lt_of_le hgl HB2.out.size
       have hg1 : g ≠ wr.heap.size := Nat.ne_of_lt hgw
       generalize wr.alloc (.cells #[.int .i64 kd, .int .i64 kh, .int .i64 kv] 100) = W1 at *
       obtain ⟨s0, s1, s2, s3⟩ := (HH.out _ HAX.out).hal
       have x1 := HBX.out.cell (i := 1) rfl
       have k0 : g < W1.heap.size := (HH.out _ HAX.out).lt
       have k1 : wr.heap.size < W1.heap.size := HBX.out.lt
       have HPX : Hid (PP ⟨kd, kh, kv⟩ = findB (h.chans.map Chn.p) kh) := Zd (by rw [<- HPP.out])
       go_region_held3 (fun w' => w'.cell? ⟨g, 0, none⟩ = some (.int .i64 h.ticket) /\ w'.cell? ⟨g, 1, none⟩ = some (.slice h.CA h.chans.length h.cc) /\ w'.cell? ⟨g, 2, none⟩ = some (.slice h.WA h.waits.length h.wc) /\ w'.cell? ⟨g, 3, none⟩ = some (.slice h.DA h.done.length h.dc) /\ w'.cell? ⟨wr.heap.size, 1, none⟩ = some (.int .i64 kh)) (first | go_keep | (simp only [hk1, hk2]; go_keep)) (first
        | (go_at_call 194
           refine (HFI.out kh _ ?_).mono ?_
           . first | exact HAX.out | exact HAX.out.drew
           rintro er w3 ⟨rfl, hb1'⟩
           have hb1 : Below W1.heap.size W1 w3 := ⟨hb1'.os, hb1'.tape, hb1'.output, hb1'.size, hb1'.block⟩
           have hk1 := fun o => hb1.cell (p := ⟨g, o, none⟩) k0
           have hk2 := fun o => hb1.cell (p := ⟨wr.heap.size, o, none⟩) k1))
       have HB3 := Zd (btr HAX.out hb1)
       clear hk1 hk2 hb1 hb1' s0 s1 s2 s3 x1
       generalize findI (h.chans.map Chn.p) kh = fi at *
       cases hfb : findB (h.chans.map Chn.p) kh
       . rw [hfb] at HPX
         go_wp2_with fail
         go_ret
         exact ⟨ret_int (HBAD.out HPX.out).symm, HB3.out⟩
       . rw [hfb] at HPX
         have HNX := Zd (HGOOD.out HPX.out)
         go_wp2_with fail
         go_roundg (k - (j + 1))
         case measure => rw [HG.out]; omega
         case rel => exact ⟨j + 1, by omega, rfl, by go_num, HNX.out, HB3.out⟩
     . obtain rfl : j = k := by omega
       have HALL := Zd (all_good PP l Cse.none (fun i hi => HOK.out i (by rw [<- HM.out]; exact hi)))
       have HE : Hid (R = 0) := Zd (by rw [HV3.out, HALL.out, if_neg (by simp)])
       clear HOK HG
       go_wp2_with fail
       go_ret
       exact ⟨ret_int HE.out.symm, HB2.out⟩
theorem all_at {α : Type} {p : α -> Bool} {l : List α} (h : l.all p = true) (d : α) {j : Nat} (hj : j < l.length) : p (l.getD j d) = true :=
 List.all_eq_true.mp h _ (mem_getD hj)
theorem cases_zero {L : List ChP} {cs : List Cse} (h : casesS L cs = 0) : 0 < cs.length /\ cs.length <= 3 /\ ∀ j, j < cs.length -> caseOk (cs.getD j Cse.none) = true /\ findB L (cs.getD j Cse.none).handle = true := by
 unfold casesS at h
 by_cases h1 : cs.length = 0 ∨ 3 < cs.length
 . rw [if_pos h1] at h; exact absurd h (by decide)
 . rw [if_neg h1] at h
   cases h2 : cs.all caseOk
   . rw [h2, if_pos rfl] at h; exact absurd h (by decide)
   . rw [h2, if_neg (by decide)] at h
     cases h3 : cs.all fun k => findB L k.handle
     . rw [h3, if_pos rfl] at h; exact absurd h (by decide)
     . exact ⟨by omega, by omega, fun j hj => ⟨all_at h2 Cse.none hj, all_at h3 Cse.none hj⟩⟩
theorem pick_drop (H : HallP) : ∀ (l : List Cse) (k j : Nat), k < l.length -> pickK H (l.drop k) j = if readyS (H.chans.getD (findP (l.getD k Cse.none).handle) ChP.none) (l.getD k Cse.none).handle H.waits (l.getD k Cse.none).dir = true then some (j, l.getD k Cse.none) else pickK H (l.drop (k + 1)) (j + 1) := by
 intro l k j hk
 rw [List.drop_eq_getElem_cons hk, show l.getD k Cse.none = l[k] from by simp [List.getD, hk]]
 rfl
theorem pick_end (H : HallP) (l : List Cse) (j : Nat) : pickK H (l.drop l.length) j = none := by
 rw [List.drop_length]; rfl
end Go.Proofs.YtieglgahfeecbaaGreatDoor
