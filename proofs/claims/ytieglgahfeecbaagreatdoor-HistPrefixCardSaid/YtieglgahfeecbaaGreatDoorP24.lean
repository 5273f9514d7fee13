/- code: a channel's slot, a call that waits, read: walked. -/
import Derived.Test.YtieglgahfeecbaaGreatDoorP17
import Derived.Test.YtieglgahfeecbaaGreatDoorP23
set_option maxHeartbeats 64000000
set_option maxRecDepth 100000
namespace Go.Proofs.YtieglgahfeecbaaGreatDoor
open Go.RowKit Go.Sort
attribute [local go_sem ↓] Go.wp_at_zero Go.wp_at_succ
structure CopSt (base g : Nat) (w : World) (h h1 : Hal) (k : Nat) : Prop where
 box : Blk w g 87 [.int .i64 h1.ticket, .slice h1.CA h1.chans.length h1.cc, .slice h1.WA h1.waits.length h1.wc, .slice h1.DA h1.done.length h1.dc]
 cr : w.ownsRow base 124 5 (.slice h1.CA h1.chans.length h1.cc) h1.chans.length (rows h1.chans)
 wr : OwnWts base w h1.WA h1.waits.length h1.wc h1.waits
 dr : w.ownsRow base 42 4 (.slice h1.DA h1.done.length h1.dc) h1.done.length (rows h1.done)
 p : h1.p = h.p
 old : ∀ j, k <= j -> h1.chans.getD j Chn.none = h.chans.getD j Chn.none
 new : ∀ j, j < k -> OwnBuf base w (h1.chans.getD j Chn.none)
 lo : base <= g
theorem CopSt.len {base g k : Nat} {w : World} {h h1 : Hal} (H : CopSt base g w h h1 k) : h1.chans.length = h.chans.length := by
 have := congrArg (fun p : HallP => p.chans.length) H.p
 simpa [Hal.p] using this
theorem CopSt.below {base g k : Nat} {w w' : World} {h h1 : Hal} (H : CopSt base g w h h1 k) (hb : Below w.heap.size w w') : CopSt base g w' h h1 k :=
 ⟨H.box.below hb H.box.lt, own_below H.cr hb, H.wr.below hb, own_below H.dr hb, H.p, H.old, fun j hj => (H.new j hj).below hb, H.lo⟩
theorem getD_setNe {α : Type} (l : List α) {k j : Nat} (x d : α) (h : k ≠ j) : (l.set k x).getD j d = l.getD j d := by
 simp [List.getElem?_set_ne h]
theorem CopSt.store {base g gc k : Nat} {w : World} {h h1 : Hal} (H : CopSt base g w h h1 k) (hA : h1.CA = some ⟨gc, 0, none⟩) (hk : k < h1.chans.length) (x : Chn) (hx : OwnBuf base w x) (hxp : x.p = (h.chans.getD k Chn.none).p) :
  CopSt base g (setsAt w gc (k * 5) (Chn.cells x)) h ⟨h1.ticket, h1.CA, h1.cc, h1.chans.set k x, h1.WA, h1.wc, h1.waits, h1.DA, h1.dc, h1.done⟩ (k + 1) /\ Below base w (setsAt w gc (k * 5) (Chn.cells x)) := by
 have hd := H.cr
 rw [hA] at hd
 refine ⟨⟨?_, ?_, H.wr.sets hd (by decide) (by decide) _ _, own_sets H.dr hd (by decide) _ _, ?_, fun j hj => ?_, fun j hj => ?_, H.lo⟩, below_setsAt (own_base hd) _ _ _ (Below.refl base w)⟩
 . have := blk_sets H.box hd (by decide) (k * 5) (Chn.cells x)
   simpa using this
 . simp only [List.length_set, hA]
   exact own_whole hd rfl hk x
 . have e1 : (h1.chans.set k x).map Chn.p = h1.chans.map Chn.p := by
    rw [List.map_set, hxp]
    have e2 := congrArg HallP.chans H.p
    simp only [Hal.p] at e2
    rw [e2]
    refine List.ext_getElem (by simp) (fun i h2 h3 => ?_)
    by_cases hik : k = i
    . subst hik
      have hkl : k < h.chans.length := by simpa using h3
      simp [hkl]
    . simp [List.getElem_set_ne hik]
   have e3 := H.p
   simp only [Hal.p] at e3 ⊢
   rw [e1]; exact e3
 . rw [getD_setNe _ _ _ (by omega)]
   exact H.old j (by omega)
 . by_cases hjk : k = j
   . subst hjk
     rw [show (h1.chans.set k x).getD k Chn.none = x from by simp [hk]]
     exact hx.sets hd (by decide) _ _
   . rw [getD_setNe _ _ _ hjk]
     exact (H.new j (by omega)).sets hd (by decide) _ _
theorem CopSt.done {base g k : Nat} {w : World} {h h1 : Hal} (H : CopSt base g w h h1 k) (hk : h1.chans.length <= k) : OwnHal base w h1 :=
 ⟨H.cr, fun x hx => by
  obtain ⟨j, hj, rfl⟩ := List.getElem_of_mem hx
  have := H.new j (by omega)
  simpa [List.getD, hj] using this, H.wr, H.dr⟩
theorem CopSt.begin {base g : Nat} {w : World} {h h1 : Hal} {v1 v2 v3 : Value} (hb : Blk w g 87 [.int .i64 h1.ticket, v1, v2, v3]) (hlo : base <= g)
  (hc : w.ownsRow base 124 5 (.slice h1.CA h1.chans.length h1.cc) h1.chans.length (rows h1.chans)) (hw : OwnWts base w h1.WA h1.waits.length h1.wc h1.waits)
  (hd : w.ownsRow base 42 4 (.slice h1.DA h1.done.length h1.dc) h1.done.length (rows h1.done)) (hp : h1.p = h.p) (ho : h1.chans = h.chans) :
  CopSt base g (((w.setCell ⟨g, 1, none⟩ (.slice h1.CA h1.chans.length h1.cc)).setCell ⟨g, 2, none⟩ (.slice h1.WA h1.waits.length h1.wc)).setCell ⟨g, 3, none⟩ (.slice h1.DA h1.done.length h1.dc)) h h1 0 :=
 ⟨((hb.set_ 1 _).set_ 2 _).set_ 3 _, own_ty (own_ty (own_ty hc hb (by decide) 1 _) (hb.set_ 1 _) (by decide) 2 _) ((hb.set_ 1 _).set_ 2 _) (by decide) 3 _,
   ((hw.box hb (by decide) (by decide) 1 _).box (hb.set_ 1 _) (by decide) (by decide) 2 _).box ((hb.set_ 1 _).set_ 2 _) (by decide) (by decide) 3 _,
   own_ty (own_ty (own_ty hd hb (by decide) 1 _) (hb.set_ 1 _) (by decide) 2 _) ((hb.set_ 1 _).set_ 2 _) (by decide) 3 _, hp, fun j _ => by rw [ho], fun j hj => absurd hj (by omega), hlo⟩
theorem hCopy_any (h : Hal) (w : World) (H : HalAt w h) (hf : HalFew h) :
  Calls Tryz.prog 139 #[halV h] w (RetHal h.p w) := by
 obtain ⟨b0, b1, hb2⟩ := box2 w 87 87 [.int .i64 h.ticket, .slice h.CA h.chans.length h.cc, .slice h.WA h.waits.length h.wc, .slice h.DA h.done.length h.dc] [.int .i64 0, .slice none 0 0, .slice none 0 0, .slice none 0 0]
 have HY0 := Zd b0
 have HZ0 := Zd b1
 have HA := Zd hb2
 have HH := Zd (fun W (hb : Below w.heap.size w W) => H.below hb)
 have HF := Zd hf
 clear H hf b0 b1 hb2
 go_enter Tryz.func139, Tryz.ntmps139
 go_upto_region 1 with fail
 generalize ((w.alloc (.cells #[.int .i64 h.ticket, .slice h.CA h.chans.length h.cc, .slice h.WA h.waits.length h.wc, .slice h.DA h.done.length h.dc] 87)).alloc (.cells #[.int .i64 0, .slice none 0 0, .slice none 0 0, .slice none 0 0] 87)) = W0 at *
 have HC1 := Zd (fun W (hb : Below W0.heap.size W0 W) => CloneCh_any h.CA h.chans.length h.cc (rows h.chans) W (by have := HF.out.cf; omega) (by rw [rows_length]; rfl) (rows_one _) (HH.out W (btr HA.out hb)).cr)
 have HC2 := Zd (fun W (hb : Below W0.heap.size W0 W) => wCopy_any h.WA h.waits.length h.wc h.waits W (HH.out W (btr HA.out hb)).wr)
 have HC3 := Zd (fun W (hb : Below W0.heap.size W0 W) => CloneRs_any h.DA h.done.length h.dc (rows h.done) W (by have := HF.out.df; omega) (by rw [rows_length]; rfl) (rows_one _) (HH.out W (btr HA.out hb)).dr)
 have y1 := HY0.out.cell (i := 1) rfl
 have y2 := HY0.out.cell (i := 2) rfl
 have y3 := HY0.out.cell (i := 3) rfl
 have hl0 := HY0.out.lt
 have HSC : Hid (∀ W', Below W0.heap.size W0 W' -> (fun w' => w'.cell? ⟨w.heap.size, 1, none⟩ = some (.slice h.CA h.chans.length h.cc) /\ w'.cell? ⟨w.heap.size, 2, none⟩ = some (.slice h.WA h.waits.length h.wc) /\ w'.cell? ⟨w.heap.size, 3, none⟩ = some (.slice h.DA h.done.length h.dc)) W') := Zd (fun W' hb => ⟨(hb.cell (p := ⟨w.heap.size, 1, none⟩) hl0).trans y1, (hb.cell (p := ⟨w.heap.size, 2, none⟩) hl0).trans y2, (hb.cell (p := ⟨w.heap.size, 3, none⟩) hl0).trans y3⟩)
 clear y1 y2 y3
 refine AnyT.region (S := fun w' => w'.cell? ⟨w.heap.size, 1, none⟩ = some (.slice h.CA h.chans.length h.cc) /\ w'.cell? ⟨w.heap.size, 2, none⟩ = some (.slice h.WA h.waits.length h.wc) /\ w'.cell? ⟨w.heap.size, 3, none⟩ = some (.slice h.DA h.done.length h.dc)) (k := 10) (by kernel_rfl) (HSC.out _ (Below.refl W0.heap.size W0).drew) (fun hHeld => ?_)
 refine AnyT.tkp 0 (.pointer (some ⟨w.heap.size, 1, none⟩)) rfl hHeld ?_
 refine AnyT.tk 1 (.slice h.CA h.chans.length h.cc) rfl (Or.inl ⟨by rfl, fun w hSw => by obtain ⟨h1, h2, h3⟩ := hSw; go_simp⟩) hHeld ?_
 refine AnyT.tkp 3 (.pointer (some ⟨w.heap.size, 2, none⟩)) rfl hHeld ?_
 refine AnyT.tk 4 (.slice h.WA h.waits.length h.wc) rfl (Or.inl ⟨by rfl, fun w hSw => by obtain ⟨h1, h2, h3⟩ := hSw; go_simp⟩) hHeld ?_
 refine AnyT.tkp 6 (.pointer (some ⟨w.heap.size, 3, none⟩)) rfl hHeld ?_
 refine AnyT.tk 7 (.slice h.DA h.done.length h.dc) rfl (Or.inl ⟨by rfl, fun w hSw => by obtain ⟨h1, h2, h3⟩ := hSw; go_simp⟩) hHeld ?_
 try simp only [Nrq, Nrs]
 refine AnyT.next (i := 2) (by kernel_rfl) rfl (fun K hK => ?_)
 clear hHeld
 rw [if_pos (by rfl)]
 try simp only [Nrq]
 go_simp
 refine (HC1.out W0.drew (Below.refl W0.heap.size W0).drew).mono ?_
 rintro er w1 ⟨A1, c1, rfl, ho1', hb1'⟩
 have hb1 : Below W0.heap.size W0 w1 := ⟨hb1'.os, hb1'.tape, hb1'.output, hb1'.size, hb1'.block⟩
 have HO1 := Zd (show w1.ownsRow W0.heap.size 124 5 (.slice A1 h.chans.length c1) h.chans.length (rows h.chans) from ho1')
 have HB1 := Zd hb1
 have hs1 := HSC.out _ hb1
 clear ho1' hb1' hb1
 go_wp2_with fail
 refine hK.out _ _ (hs1) (fun hHeld => ?_)
 clear hK K
 try simp only [Nrq, Nrs]
 refine AnyT.tkp 9 (.pointer (some ⟨w.heap.size, 1, none⟩)) rfl hHeld ?_
 try simp only [Nrq, Nrs]
 refine AnyT.next (i := 5) (by kernel_rfl) rfl (fun K hK => ?_)
 clear hHeld
 rw [if_pos (by rfl)]
 try simp only [Nrq]
 go_simp
 refine (HC2.out w1 HB1.out).mono ?_
 rintro er w2 ⟨A2, c2, l2, rfl, hp2, ho2', hb2'⟩
 have hlen2 : l2.length = h.waits.length := by have := congrArg List.length hp2; simpa using this
 have HP2 := Zd hp2
 have HO2 := Zd (show OwnWts W0.heap.size w2 A2 l2.length c2 l2 by have := ho2'.lower HB1.out.size; rw [List.length_map, <- hlen2] at this; exact this)
 have HB2 := Zd (HB1.out.trans (hb2'.mono HB1.out.size))
 have HO1b := Zd (own_below HO1.out hb2')
 have hs2 := HSC.out _ HB2.out
 simp only [List.length_map, <- hlen2]
 clear ho2' hb2' hp2
 go_wp2_with fail
 refine hK.out _ _ (hs2) (fun hHeld => ?_)
 clear hK K
 try simp only [Nrq, Nrs]
 refine AnyT.next (i := 8) (by kernel_rfl) rfl (fun K hK => ?_)
 clear hHeld
 rw [if_pos (by rfl)]
 try simp only [Nrq]
 go_simp
 refine (HC3.out w2 HB2.out).mono ?_
 rintro er w3 ⟨A3, c3, rfl, ho3', hb3'⟩
 have HO3 := Zd (own_lower ho3' HB2.out.size)
 have HB3 := Zd (HB2.out.trans (hb3'.mono HB2.out.size))
 have HO1c := Zd (own_below HO1b.out hb3')
 have HO2c := Zd (HO2.out.below hb3')
 have hs3 := HSC.out _ HB3.out
 clear ho3' hb3'
 go_wp2_with fail
 refine hK.out _ _ (hs3) (fun hHeld => ?_)
 clear hK K
 try simp only [Nrq, Nrs]
 have HY3 := Zd (HY0.out.below HB3.out HY0.out.lt)
 have y1 := HY3.out.cell (i := 1) rfl
 have y2 := HY3.out.cell (i := 2) rfl
 have y3 := HY3.out.cell (i := 3) rfl
 have y1f := HY3.out.frozen 1
 have y2f := HY3.out.frozen 2
 have y3f := HY3.out.frozen 3
 clear hHeld
 refine AnyT.past (i := 10) (by kernel_rfl) (by kernel_rfl) rfl (fun K hK => ?_)
 rw [if_pos (by rfl)]
 try simp only [Nrq]
 go_simp
 try go_wp2_with fail
 refine hK.out _ _ ?_
 clear hK K
 try simp only [Nrq, Nrs]
 refine AnyT.past (i := 11) (by kernel_rfl) (by kernel_rfl) rfl (fun K hK => ?_)
 rw [if_pos (by rfl)]
 try simp only [Nrq]
 go_simp
 try go_wp2_with fail
 refine hK.out _ _ ?_
 clear hK K
 try simp only [Nrq, Nrs]
 refine AnyT.past (i := 12) (by kernel_rfl) (by kernel_rfl) rfl (fun K hK => ?_)
 rw [if_pos (by rfl)]
 try simp only [Nrq]
 go_simp
 try go_wp2_with fail
 refine hK.out _ _ ?_
 clear hK K
 try simp only [Nrq, Nrs]
 refine AnyT.past (i := 13) (by kernel_rfl) (by kernel_rfl) rfl (fun K hK => ?_)
 rw [if_pos (by rfl)]
 try simp only [Nrq]
 go_simp
 try go_wp2_with fail
 refine hK.out _ _ ?_
 clear hK K
 try simp only [Nrq, Nrs]
 refine AnyT.past (i := 14) (by kernel_rfl) (by kernel_rfl) rfl (fun K hK => ?_)
 rw [if_pos (by rfl)]
 try simp only [Nrq]
 go_simp
 try go_wp2_with fail
 refine hK.out _ _ ?_
 clear hK K
 try simp only [Nrq, Nrs]
 refine AnyT.done (by kernel_rfl) ?_ _
 have HST : Hid (CopSt w.heap.size w.heap.size (((w3.setCell ⟨w.heap.size, 1, none⟩ (.slice A1 h.chans.length c1)).setCell ⟨w.heap.size, 2, none⟩ (.slice A2 h.waits.length c2)).setCell ⟨w.heap.size, 3, none⟩ (.slice A3 h.done.length c3)) h ⟨h.ticket, A1, c1, h.chans, A2, c2, l2, A3, c3, h.done⟩ 0) := Zd (by
  have hx := CopSt.begin (h := h) (h1 := ⟨h.ticket, A1, c1, h.chans, A2, c2, l2, A3, c3, h.done⟩) HY3.out (Nat.le_refl w.heap.size) (own_lower HO1c.out HA.out.size) (HO2c.out.lower HA.out.size) (own_lower HO3.out HA.out.size) (by unfold Hal.p; rw [HP2.out]) rfl
  simp only [hlen2] at hx
  exact hx)
 have HZ3 : Hid (Blk (((w3.setCell ⟨w.heap.size, 1, none⟩ (.slice A1 h.chans.length c1)).setCell ⟨w.heap.size, 2, none⟩ (.slice A2 h.waits.length c2)).setCell ⟨w.heap.size, 3, none⟩ (.slice A3 h.done.length c3)) (w.heap.size + 1) 87 [.int .i64 0, .slice none 0 0, .slice none 0 0, .slice none 0 0]) := Zd ((((HZ0.out.below HB3.out HZ0.out.lt).other (by omega) 1 _).other (by omega) 2 _).other (by omega) 3 _)
 have HB4 : Hid (Below w.heap.size w (((w3.setCell ⟨w.heap.size, 1, none⟩ (.slice A1 h.chans.length c1)).setCell ⟨w.heap.size, 2, none⟩ (.slice A2 h.waits.length c2)).setCell ⟨w.heap.size, 3, none⟩ (.slice A3 h.done.length c3))) := Zd ((((HA.out.trans (HB3.out.mono HA.out.size)).setCell (p := ⟨w.heap.size, 1, none⟩) (Nat.le_refl _) _).setCell (p := ⟨w.heap.size, 2, none⟩) (Nat.le_refl _) _).setCell (p := ⟨w.heap.size, 3, none⟩) (Nat.le_refl _) _)
 clear y1 y2 y3 y1f y2f y3f hs1 hs2 hs3 HSC HC1 HC2 HC3 HO1 HO1b HO1c HO2 HO2c HO3 HB1 HB2 HB3 HY3 hl0
 generalize (((w3.setCell ⟨w.heap.size, 1, none⟩ (.slice A1 h.chans.length c1)).setCell ⟨w.heap.size, 2, none⟩ (.slice A2 h.waits.length c2)).setCell ⟨w.heap.size, 3, none⟩ (.slice A3 h.done.length c3)) = W4 at *
 have HS1 := HST.out.box.cell (i := 1) rfl
 generalize hn : h.chans.length = n at *
 have HN := Zd hn
 clear hn
 simp only at HS1
 skip
 go_upto_region 3 with fail
 clear HS1
 go_loopw [19] (fun i wr => ∃ (k : Nat) (h1 : Hal), k <= n /\ i = .int .i64 k /\ CopSt w.heap.size w.heap.size wr h h1 k /\ Blk wr (w.heap.size + 1) 87 [.int .i64 0, .slice none 0 0, .slice none 0 0, .slice none 0 0] /\ Below w.heap.size w wr) (fun i _ => n - (intOf i).toNat)
 case atStart => exact ⟨0, _, Nat.zero_le _, rfl, HST.out, HZ3.out, HB4.out⟩
 case round =>
  obtain ⟨k, h1, hk, rfl, hst, hz, hb⟩ := hrel
  have HS := Zd hst
  have HZ := Zd hz
  have HB := Zd hb
  have hl1 : h1.chans.length = n := by rw [hst.len, HN.out]
  clear hst hz hb HST HZ3 HB4
  by_cases hlt : k < n
  . have q0 := HS.out.cr
    obtain ⟨gc, hCA, hgc1, hgc2⟩ := own_some q0 (by rw [hl1]; omega)
    rw [hCA] at q0
    have HC := Zd q0
    obtain ⟨x, hx⟩ : ∃ x : Chn, x = h.chans.getD k Chn.none := ⟨_, rfl⟩
    have HX := Zd hx
    obtain ⟨c0, d1, d2, d3, d4⟩ := chn_cells (k := k) (x := x) (own_cellAt HC.out) (by rw [hl1]; exact hlt) (by rw [HS.out.old k (Nat.le_refl _), <- hx])
    simp only [Nat.zero_add] at c0 d1 d2 d3 d4
    have s1 := HS.out.box.cell (i := 1) rfl
    rw [hCA, hl1] at s1
    have u0 : (0 : Int) <= (k : Int) := by omega
    have u1 : (k : Int) < (n : Int) := by omega
    have HCA := Zd hCA
    have HL1 := Zd hl1
    have HCC := Zd (fun W (hb : Below wr.heap.size wr W) => cCopy_any x W ((((HH.out W (btr HB.out hb))).cb x (by rw [HX.out]; exact mem_getD (by rw [HN.out]; exact hlt)))))
    have gl : w.heap.size < wr.heap.size := HS.out.box.lt
    clear q0 hCA hx hl1
    go_upto_region 5 with fail
    have HSC : Hid (∀ W', Below wr.heap.size wr W' -> (fun w' => w'.cell? ⟨w.heap.size, 1, none⟩ = some (.slice (some ⟨gc, 0, none⟩) n h1.cc) /\ w'.cell? ⟨gc, k * 5, none⟩ = some (.int .i64 x.gen) /\ w'.cell? ⟨gc, k * 5 + 1, none⟩ = some (.int .i64 x.cap) /\ w'.cell? ⟨gc, k * 5 + 2, none⟩ = some (.bool x.used) /\ w'.cell? ⟨gc, k * 5 + 3, none⟩ = some (.bool x.closed) /\ w'.cell? ⟨gc, k * 5 + 4, none⟩ = some (.slice x.A x.buf.length x.c)) W') := Zd (fun W' hb => ⟨(hb.cell (p := ⟨w.heap.size, 1, none⟩) gl).trans s1, (hb.cell (p := ⟨gc, k * 5, none⟩) hgc2).trans c0, (hb.cell (p := ⟨gc, k * 5 + 1, none⟩) hgc2).trans d1, (hb.cell (p := ⟨gc, k * 5 + 2, none⟩) hgc2).trans d2, (hb.cell (p := ⟨gc, k * 5 + 3, none⟩) hgc2).trans d3, (hb.cell (p := ⟨gc, k * 5 + 4, none⟩) hgc2).trans d4⟩)
    refine AnyT.region (S := fun w' => w'.cell? ⟨w.heap.size, 1, none⟩ = some (.slice (some ⟨gc, 0, none⟩) n h1.cc) /\ w'.cell? ⟨gc, k * 5, none⟩ = some (.int .i64 x.gen) /\ w'.cell? ⟨gc, k * 5 + 1, none⟩ = some (.int .i64 x.cap) /\ w'.cell? ⟨gc, k * 5 + 2, none⟩ = some (.bool x.used) /\ w'.cell? ⟨gc, k * 5 + 3, none⟩ = some (.bool x.closed) /\ w'.cell? ⟨gc, k * 5 + 4, none⟩ = some (.slice x.A x.buf.length x.c)) (k := 10) (by kernel_rfl) (HSC.out _ (Below.refl wr.heap.size wr).drew) (fun hHeld => ?_)
    refine AnyT.tkp 0 (.pointer (some ⟨w.heap.size, 1, none⟩)) rfl hHeld ?_
    refine AnyT.tk 1 (.slice (some ⟨gc, 0, none⟩) n h1.cc) rfl (Or.inl ⟨by rfl, fun w hSw => by obtain ⟨h0, h2, h3, h4, h5, h6⟩ := hSw; go_simp⟩) hHeld ?_
    refine AnyT.tkp 2 (.int .i64 (k : Int)) rfl hHeld ?_
    refine AnyT.tkp 3 (.pointer (some ⟨w.heap.size, 1, none⟩)) rfl hHeld ?_
    refine AnyT.tk 4 (.slice (some ⟨gc, 0, none⟩) n h1.cc) rfl (Or.inl ⟨by rfl, fun w hSw => by obtain ⟨h0, h2, h3, h4, h5, h6⟩ := hSw; go_simp⟩) hHeld ?_
    refine AnyT.tkp 5 (.int .i64 (k : Int)) rfl hHeld ?_
    refine AnyT.tkp 6 (.pointer (some ⟨gc, k * 5, none⟩)) rfl hHeld ?_
    refine AnyT.tk 7 (.agg #[.int .i64 x.gen, .int .i64 x.cap, .bool x.used, .bool x.closed, .slice x.A x.buf.length x.c]) rfl (Or.inl ⟨by rfl, fun w hSw => by obtain ⟨h0, h2, h3, h4, h5, h6⟩ := hSw; go_simp⟩) hHeld ?_
    try simp only [Nrq, Nrs]
    refine AnyT.next (i := 8) (by kernel_rfl) rfl (fun K hK => ?_)
    clear hHeld
    rw [if_pos (by rfl)]
    try simp only [Nrq]
    go_simp
    refine (HCC.out wr.drew (Below.refl wr.heap.size wr).drew).mono ?_
    rintro er w5 ⟨y, rfl, hyp, hyo', hb5'⟩
    have hb5 : Below wr.heap.size wr w5 := ⟨hb5'.os, hb5'.tape, hb5'.output, hb5'.size, hb5'.block⟩
    have HYP := Zd hyp
    have HYO := Zd ((show OwnBuf wr.heap.size w5 y from hyo').lower HB.out.size)
    have HB5 := Zd hb5
    have hs1 := HSC.out _ hb5
    clear hyp hyo' hb5' hb5
    unfold chnV
    go_wp2_with fail
    refine hK.out _ _ (hs1) (fun hHeld => ?_)
    clear hK K
    try simp only [Nrq, Nrs]
    refine AnyT.tkp 9 (.pointer (some ⟨gc, k * 5, none⟩)) rfl hHeld ?_
    try simp only [Nrq, Nrs]
    have HS5 := Zd (HS.out.below HB5.out)
    have HC5 := Zd (own_below HC.out HB5.out)
    have HZ5 := Zd (HZ.out.below HB5.out HZ.out.lt)
    have HE := Zd (HS5.out.store HCA.out (by rw [HL1.out]; exact hlt) y HYO.out (by rw [HYP.out, HX.out]))
    have HZE := Zd (blk_sets HZ5.out HC5.out (by decide) (k * 5) (Chn.cells y))
    clear c0 d1 d2 d3 d4 s1 hHeld
    obtain ⟨h0, c0, d1, d2, d3, d4⟩ := hs1
    have zd := own_free HC5.out
    refine AnyT.past (i := 10) (by kernel_rfl) (by kernel_rfl) rfl (fun K hK => ?_)
    rw [if_pos (by rfl)]
    try simp only [Nrq]
    go_simp
    try go_wp2_with fail
    refine hK.out _ _ ?_
    clear hK K
    try simp only [Nrq, Nrs]
    refine AnyT.done (by kernel_rfl) ?_ _
    clear c0 d1 d2 d3 d4 zd h0
    have hn4 : n <= 4096 := by have := HF.out.cf; have := HN.out; omega
    go_wp2_with fail
    go_roundw
    case measure => simp [intOf]; omega
    case rel => exact ⟨k + 1, ⟨h1.ticket, h1.CA, h1.cc, h1.chans.set k y, h1.WA, h1.wc, h1.waits, h1.DA, h1.dc, h1.done⟩, by omega, by go_num, HE.out.1, HZE.out, HB.out.trans ((HB5.out.mono HB.out.size).trans HE.out.2)⟩
  . obtain rfl : k = n := by omega
    have HO := Zd (HS.out.done (by omega))
    have HP := Zd HS.out.p
    have HSZ := Zd (show w.heap.size + 1 < wr.heap.size from HZ.out.lt)
    have g0 := HS.out.box.cell (i := 0) rfl
    have g1 := HS.out.box.cell (i := 1) rfl
    have g2 := HS.out.box.cell (i := 2) rfl
    have g3 := HS.out.box.cell (i := 3) rfl
    have z0 := HZ.out.cell (i := 0) rfl
    have z0f := HZ.out.frozen 0
    have z1 := HZ.out.cell (i := 1) rfl
    have z1f := HZ.out.frozen 1
    have z2 := HZ.out.cell (i := 2) rfl
    have z2f := HZ.out.frozen 2
    have z3 := HZ.out.cell (i := 3) rfl
    have z3f := HZ.out.frozen 3
    clear hl1
    go_wp2_with fail
    refine bodyPost_ret (v := halV h1) (ret_cell (g := w.heap.size + 1) rfl rfl (hal_load (h := h1) (put4 HZ.out))) rfl ?_
    exact ⟨h1, rfl, HP.out, ((((HO.out.boxedH (i := 0) HZ.out).boxedH (i := 1) (HZ.out.set_ 0 _)).boxedH (i := 2) ((HZ.out.set_ 0 _).set_ 1 _)).boxedH (i := 3) (((HZ.out.set_ 0 _).set_ 1 _).set_ 2 _)), below4 HB.out (g := w.heap.size + 1) (by omega) (i := 0) (j := 1) (k := 2) (l := 3) (u := .int .i64 h1.ticket) (v := .slice h1.CA h1.chans.length h1.cc) (x := .slice h1.WA h1.waits.length h1.wc) (y := .slice h1.DA h1.done.length h1.dc)⟩
theorem kPutH_any (c : Cfg) (h : Hal) (w : World) (hc : CfgIn w c) (hx : HalAt w h) :
  Calls Tryz.prog 37 #[cfgV c, halV h] w (RetWords (putH c h.p) w) := by
 have HFI := Zd (fun W (hb : Below w.heap.size w W) => kFitsH_any c h W (hc.below hb) (hx.below hb))
 obtain ⟨b0, b1, hb0⟩ := box2 w 24 87 (cfgCells c) h.cells
 have HBC := Zd b0
 have HBH := Zd b1
 have HBX := Zd hb0
 clear b0 b1 hb0
 unfold cfgCells Hal.cells at HBC HBH HBX
 cases hf : fitsH c h.p
 . have HV : Hid (putH c h.p = []) := Zd (by unfold putH; rw [hf]; rfl)
   rw [HV.out]
   rw [hf] at HFI
   clear hc hx hf
   unfold halV cfgV at HFI ⊢
   go_enter Tryz.func37, Tryz.ntmps37
   go_wp2_with (go_at_call 73; refine (HFI.out _ HBX.out).mono ?_; rintro er w1 ⟨rfl, hb1⟩; have HB1 := Zd (btr HBX.out hb1); clear hb1)
   go_ret
   exact ⟨none, 0, rfl, own_nil _ _ _ _, HB1.out⟩
 obtain ⟨cp, hcp, hF⟩ := put_facts hf
 have HF := Zd hF
 have HX := Zd hx
 have HV : Hid (putH c h.p = h.ticket :: ((h.chans.flatMap (fun x => chanI c.cap x.p) ++ h.waits.flatMap (fun x => waitI x.p)) ++ h.done.map resI)) := Zd (by
  unfold putH; rw [hf, if_pos rfl]; unfold hallI Hal.p
  simp only [List.flatMap_map, List.append_assoc]; rfl)
 have HLEN : Hid ((putH c h.p).length = 1 + h.chans.length * (1 + cp) + h.waits.length * 4 + h.done.length) := Zd (by
  unfold putH; rw [hf, if_pos rfl, hallI_len, hcp]; unfold Hal.p; simp)
 rw [hf] at HFI
 have HHD := Zd (fun (x : Chn) (hm : x ∈ h.chans) W => khead_any x W (hF.ch x hm).1 (hF.ch x hm).2.1 (hF.ch x hm).2.2.1)
 have HCI : Hid (∀ x : Chn, chanI c.cap x.p = headI x.p :: rowI x.buf cp) := Zd (fun x => by unfold chanI; rw [hcp]; rfl)
 have HT1 := Zd (fun k (hk : k < h.chans.length) => take_flat (fun x => chanI c.cap x.p) Chn.none h.chans k hk)
 have HT2 := Zd (fun k (hk : k < h.waits.length) => take_flat (fun x => waitI x.p) Wtr.none h.waits k hk)
 have HL1 : Hid (h.chans.take h.chans.length = h.chans) := Zd List.take_length
 have HL2 : Hid (h.waits.take h.waits.length = h.waits) := Zd List.take_length
 have HCP := Zd hcp
 obtain ⟨⟨tk0, tk1⟩, cp1, nc1, nw1, nd1, _, _⟩ := hF
 clear hf hc hx hcp
 generalize putH c h.p = R at *
 obtain ⟨tk, CA, cc, chans, WA, wc, waits, DA, dc, dn⟩ := h
 simp only at tk0 tk1 nc1 nw1 nd1 HBC HBH HBX HV HLEN HT1 HT2 HL1 HL2
 unfold halV cfgV at HFI ⊢
 simp only at HFI ⊢
 rw [HCP.out] at HBC HBH HBX HFI ⊢
 generalize hn : chans.length = n at *
 generalize hm : waits.length = m at *
 generalize hl : dn.length = dl at *
 have HN := Zd hn
 have HM := Zd hm
 have HL := Zd hl
 clear hn hm hl
 go_enter Tryz.func37, Tryz.ntmps37
 go_upto_region 3 with (go_at_call 73; go_loud (refine (HFI.out _ HBX.out).mono ?_; rintro er w1 ⟨rfl, hb1⟩; have HB1 := Zd (btr HBX.out hb1); have HC1 := Zd (HBC.out.below hb1 HBC.out.lt); have HH1 := Zd (HBH.out.below hb1 HBH.out.lt); clear hb1))
 clear HBC HBH HBX HFI
 have y0 := HH1.out.cell (i := 0) rfl
 go_upto_region 4 with fail
 clear y0
 have HO2 : Hid ((w1.alloc (.cells #[.int .u64 tk] 95)).ownsRow w1.heap.size 95 1 (.slice (some ⟨w1.heap.size, 0, none⟩) 1 1) 1 (words [tk])) := Zd (own_blk1 (cs := words [tk]) (blk_new rfl) (Nat.le_refl _) rfl (by decide))
 have HB2 := Zd ((Below.refl w1.heap.size w1).alloc (Nat.le_refl _) (.cells #[.int .u64 tk] 95))
 generalize (some (⟨w1.heap.size, 0, none⟩ : Addr)) = A0 at *
 generalize w1.alloc (.cells #[.int .u64 tk] 95) = W2 at *
 have HH2 := Zd (HH1.out.below HB2.out HH1.out.lt)
 have y1 := HH2.out.cell (i := 1) rfl
 go_upto_region 5 with fail
 clear y1 HH2
 go_loopg [5, 22] n (fun gg o i wr => ∃ (k : Nat) (A1 : Option Addr) (c1 mm : Nat), k <= n /\ gg = n - k /\ i = .int .i64 k /\ o = .slice A1 mm c1 /\ mm = 1 + k * (1 + cp) /\ wr.ownsRow w1.heap.size 95 1 (.slice A1 mm c1) mm (words (tk :: (chans.take k).flatMap (fun x => chanI c.cap x.p))) /\ Below w1.heap.size w1 wr)
 case atStart => exact ⟨0, A0, 1, 1, Nat.zero_le _, rfl, rfl, rfl, by omega, HO2.out, HB2.out⟩
 case round =>
  obtain ⟨k, A1, c1, mm, hk, hg, rfl, rfl, hmm, how, hb⟩ := hrel
  have HG := Zd hg
  have HB := Zd hb
  have HO := Zd how
  have HMM := Zd hmm
  have HMS : Hid (mm + 1 + cp <= 200) := Zd (by
   have : k * (1 + cp) <= 8 * 17 := Nat.mul_le_mul (by omega) (by omega)
   omega)
  clear hg hb how HO2 HB2 hmm
  by_cases hlt : k < n
  . have HRC := Zd (fun W (hb : Below w1.heap.size w1 W) => HX.out.cr.below (btr HB1.out hb))
    obtain ⟨b, o, hCA, hbl, hcell⟩ := (HRC.out wr HB.out).at_ (by rw [rows_length, HN.out]; simp only [Cellful.s]; omega)
    subst hCA
    have hkl : k < chans.length := by rw [HN.out]; exact hlt
    obtain ⟨x, hxx⟩ : ∃ x : Chn, x = chans.getD k Chn.none := ⟨_, rfl⟩
    have HMX : Hid (x ∈ chans) := Zd (by rw [hxx]; exact mem_getD hkl)
    have HRW : Hid (words (tk :: (chans.take (k + 1)).flatMap (fun x => chanI c.cap x.p)) = words ((tk :: (chans.take k).flatMap (fun x => chanI c.cap x.p) ++ [headI x.p]) ++ rowI x.buf cp)) := Zd (by
     rw [HT1.out k (by omega), <- hxx, HCI.out]; simp)
    obtain ⟨c0, d1, d2, d3, d4⟩ := chn_cells hcell hkl hxx.symm
    have HD := Zd (fun W => HHD.out x HMX.out W)
    have HRB := Zd (fun W (hb : Below w1.heap.size w1 W) => (HX.out.cb x HMX.out).rd.below (btr HB1.out hb))
    have HVB := Zd (HF.out.ch x HMX.out).2.2
    have HSZ := Zd HB.out.size
    clear hcell hxx
    generalize headI x.p = hd at *
    have HGX : Hid (Blk (wr.alloc (.cells #[.int .i64 x.gen, .int .i64 x.cap, .bool x.used, .bool x.closed, .slice x.A x.buf.length x.c] 124)) wr.heap.size 124 [.int .i64 x.gen, .int .i64 x.cap, .bool x.used, .bool x.closed, .slice x.A x.buf.length x.c]) := Zd (blk_new rfl)
    have HAX := Zd ((Below.refl wr.heap.size wr).alloc (Nat.le_refl _) (.cells #[.int .i64 x.gen, .int .i64 x.cap, .bool x.used, .bool x.closed, .slice x.A x.buf.length x.c] 124))
    go_upto_region 7 with fail
    have HOX := Zd (own_below HO.out HAX.out)
    have HBV := Zd (HB.out.trans (HAX.out.mono HB.out.size))
    have HCV := Zd (HC1.out.below HBV.out HC1.out.lt)
    have hgs : wr.heap.size < (wr.alloc (.cells #[.int .i64 x.gen, .int .i64 x.cap, .bool x.used, .bool x.closed, .slice x.A x.buf.length x.c] 124)).heap.size := HGX.out.lt
    have hcs : w.heap.size < (wr.alloc (.cells #[.int .i64 x.gen, .int .i64 x.cap, .bool x.used, .bool x.closed, .slice x.A x.buf.length x.c] 124)).heap.size := HCV.out.lt
    clear HAX c0 d1 d2 d3 d4
    generalize wr.alloc (.cells #[.int .i64 x.gen, .int .i64 x.cap, .bool x.used, .bool x.closed, .slice x.A x.buf.length x.c] 124) = V at *
    generalize wr.heap.size = gx at *
    have HSS : Hid (∀ W', Blk W' gx 124 [.int .i64 x.gen, .int .i64 x.cap, .bool x.used, .bool x.closed, .slice x.A x.buf.length x.c] -> Blk W' w.heap.size 24 [.int .i64 c.kind, .int .i64 c.threads, .int .i64 c.chans, .int .i64 (cp : Int), .int .i64 c.nodes, .int .i64 c.retire, .int .i64 c.patience, .int .i64 c.tags, .int .i64 c.seqs, .int .i64 c.gens, .slice c.sa c.start.length c.sc] -> (fun w' => w'.cell? ⟨gx, 0, none⟩ = some (.int .i64 x.gen) /\ w'.cell? ⟨gx, 1, none⟩ = some (.int .i64 x.cap) /\ w'.cell? ⟨gx, 2, none⟩ = some (.bool x.used) /\ w'.cell? ⟨gx, 3, none⟩ = some (.bool x.closed) /\ w'.cell? ⟨gx, 4, none⟩ = some (.slice x.A x.buf.length x.c) /\ w'.cell? ⟨w.heap.size, 3, none⟩ = some (.int .i64 (cp : Int))) W') := Zd (fun W' hX hC => ⟨hX.cell (i := 0) rfl, hX.cell (i := 1) rfl, hX.cell (i := 2) rfl, hX.cell (i := 3) rfl, hX.cell (i := 4) rfl, hC.cell (i := 3) rfl⟩)
    refine AnyT.region (S := fun w' => w'.cell? ⟨gx, 0, none⟩ = some (.int .i64 x.gen) /\ w'.cell? ⟨gx, 1, none⟩ = some (.int .i64 x.cap) /\ w'.cell? ⟨gx, 2, none⟩ = some (.bool x.used) /\ w'.cell? ⟨gx, 3, none⟩ = some (.bool x.closed) /\ w'.cell? ⟨gx, 4, none⟩ = some (.slice x.A x.buf.length x.c) /\ w'.cell? ⟨w.heap.size, 3, none⟩ = some (.int .i64 (cp : Int))) (k := 10) (by kernel_rfl) (HSS.out _ (Blk.drew HGX.out) (Blk.drew HCV.out)) (fun hHeld => ?_)
    refine AnyT.tkp 0 (.slice A1 mm c1) rfl hHeld ?_
    refine AnyT.tk 1 (.agg #[.int .i64 x.gen, .int .i64 x.cap, .bool x.used, .bool x.closed, .slice x.A x.buf.length x.c]) rfl (Or.inl ⟨by rfl, fun w hSw => by obtain ⟨h0, h1, h2, h3, h4, h5⟩ := hSw; go_simp⟩) hHeld ?_
    refine AnyT.tkp 5 (.pointer (some ⟨gx, 4, none⟩)) rfl hHeld ?_
    refine AnyT.tk 6 (.slice x.A x.buf.length x.c) rfl (Or.inl ⟨by rfl, fun w hSw => by obtain ⟨h0, h1, h2, h3, h4, h5⟩ := hSw; go_simp⟩) hHeld ?_
    refine AnyT.tkp 7 (.pointer (some ⟨w.heap.size, 3, none⟩)) rfl hHeld ?_
    refine AnyT.tk 8 (.int .i64 (cp : Int)) rfl (Or.inl ⟨by rfl, fun w hSw => by obtain ⟨h0, h1, h2, h3, h4, h5⟩ := hSw; go_simp⟩) hHeld ?_
    try simp only [Nrq, Nrs]
    have HGD := Zd (Blk.drew HGX.out)
    have HCD := Zd (Blk.drew HCV.out)
    have HOD := Zd (own_below HOX.out (Below.refl V.heap.size V).drew)
    have HBD := Zd HBV.out.drew
    have HSD : Hid (w1.heap.size <= V.drew.heap.size) := Zd HBD.out.size
    clear HGX HCV HOX HBV
    generalize V.drew = VD at *
    refine AnyT.next (i := 2) (by kernel_rfl) rfl (fun K hK => ?_)
    clear hHeld
    rw [if_pos (by rfl)]
    try simp only [Nrq]
    go_simp
    refine (HD.out VD).mono ?_
    rintro er w2 ⟨rfl, hb2⟩
    have HG2 := Zd (HGD.out.below hb2 HGD.out.lt)
    have HC2 := Zd (HCD.out.below hb2 HCD.out.lt)
    have HO2 := Zd (own_below HOD.out hb2)
    have HB2 := Zd (HBD.out.trans (hb2.mono HSD.out))
    clear hb2 HGD HCD HOD HBD
    go_wp2_with fail
    refine hK.out _ _ (HSS.out _ HG2.out HC2.out) (fun hHeld => ?_)
    clear hK K
    try simp only [Nrq, Nrs]
    have HG3 := Zd (HG2.out.alloc (.cells #[.int .u64 hd] 95))
    have HC3 := Zd (HC2.out.alloc (.cells #[.int .u64 hd] 95))
    have HO3 := Zd (HO2.out.alloc (.cells #[.int .u64 hd] 95))
    have HB3 := Zd (HB2.out.alloc HB2.out.size (.cells #[.int .u64 hd] 95))
    have HR3 : Hid (Rd (w2.alloc (.cells #[.int .u64 hd] 95)) (some ⟨w2.heap.size, 0, none⟩) (words [hd])) := Zd (blk_new (cs := words [hd]) rfl).rd
    refine AnyT.next (i := 3) (by kernel_rfl) rfl (fun K hK => ?_)
    clear hHeld
    rw [if_pos (by rfl)]
    try simp only [Nrq]
    go_simp
    refine hK.out _ _ (HSS.out _ HG3.out HC3.out) (fun hHeld => ?_)
    clear hK K HG2 HC2 HO2 HB2
    try simp only [Nrq, Nrs]
    have HN3 : Hid ((some (⟨w2.heap.size, 0, none⟩ : Addr)) = none -> False) := Zd (by simp)
    generalize (some (⟨w2.heap.size, 0, none⟩ : Addr)) = A3 at *
    generalize w2.alloc (.cells #[.int .u64 hd] 95) = w3 at *
    have HS3 : Hid (w1.heap.size <= w3.heap.size) := Zd HB3.out.size
    refine AnyT.next (i := 4) (by kernel_rfl) rfl (fun K hK => ?_)
    clear hHeld
    rw [if_pos (by rfl)]
    try simp only [Nrq]
    refine wp_app (.tmp 26) (.tmp 29) 53 95 rfl w1.heap.size (.int .u64 0) 1 8 Tryz.underlying53 CloneW_info rfl (by decide) A1 mm c1 (words (tk :: (chans.take k).flatMap (fun x => chanI c.cap x.p))) (by rfl) HO3.out A3 1 1 (words [hd]) (by rfl) (fun e => (HN3.out e).elim) rfl HR3.out (words_one _) (mm + 1) rfl (words (tk :: (chans.take k).flatMap (fun x => chanI c.cap x.p) ++ [hd])) (by rw [wordsApp]) (by have := HMS.out; unfold maxLen; omega) (by have := HMS.out; omega) HS3.out ?_
    intro A4 c4 w4 hown4 hg4 hb4
    have HG4 := Zd (blk_grown HG3.out hg4 (own_blk_neL HO3.out HG3.out (by decide)))
    have HC4 := Zd (blk_grown HC3.out hg4 (own_blk_neL HO3.out HC3.out (by decide)))
    have HO4 := Zd hown4
    have HB4 := Zd (HB3.out.trans hb4)
    have HS4 : Hid (w1.heap.size <= w4.heap.size) := Zd HB4.out.size
    refine hK.out _ _ (HSS.out _ HG4.out HC4.out) (fun hHeld => ?_)
    clear hK K hown4 hg4 hb4 HG3 HC3 HO3 HB3 HR3 HS3
    try simp only [Nrs]
    refine AnyT.next (i := 9) (by kernel_rfl) rfl (fun K hK => ?_)
    clear hHeld
    rw [if_pos (by rfl)]
    try simp only [Nrq]
    go_simp
    refine (krowG_any w1.heap.size A4 (mm + 1) c4 (tk :: (chans.take k).flatMap (fun x => chanI c.cap x.p) ++ [hd]) x.A x.c x.buf cp w4 HS4.out HO4.out (by have := HVB.out.1; omega) HVB.out.2 (by omega) (by have := HMS.out; omega) (fun w' hw' => HRB.out w' (HB4.out.trans hw'))).mono ?_
    rintro er w5 ⟨A5, c5, rfl, hown5, hb5, hg5⟩
    have HG5 := Zd (hg5.blk HG4.out (own_blk_neL HO4.out HG4.out (by decide)))
    have HC5 := Zd (hg5.blk HC4.out (own_blk_neL HO4.out HC4.out (by decide)))
    have HO5 := Zd hown5
    have HB5 := Zd (HB4.out.trans hb5)
    clear hown5 hg5 hb5 HG4 HC4 HO4 HB4 HS4
    go_wp2_with fail
    refine hK.out _ _ (HSS.out _ HG5.out HC5.out) (fun hHeld => ?_)
    clear hK K
    try simp only [Nrq, Nrs]
    refine AnyT.past (i := 10) (by kernel_rfl) (by kernel_rfl) rfl (fun K hK => ?_)
    rw [if_pos (by rfl)]
    try simp only [Nrq]
    go_simp
    try go_wp2_with fail
    refine hK.out _ _ ?_
    clear hK K
    try simp only [Nrq, Nrs]
    refine AnyT.done (by kernel_rfl) ?_ _
    clear hHeld
    go_wp2_with fail
    go_roundg (n - (k + 1))
    case measure => rw [HG.out]; omega
    case rel => exact ⟨k + 1, A5, c5, mm + 1 + cp, by omega, rfl, by go_num, rfl, by rw [HMM.out, Nat.add_mul]; omega, by rw [HRW.out]; exact HO5.out, HB5.out⟩
  . obtain rfl : k = n := by omega
    have HO1 : Hid (wr.ownsRow w1.heap.size 95 1 (.slice A1 mm c1) mm (words (tk :: chans.flatMap (fun x => chanI c.cap x.p)))) := Zd (by have := HO.out; rw [HL1.out] at this; exact this)
    have HB1a := Zd HB.out
    have HH2 := Zd (HH1.out.below HB.out HH1.out.lt)
    have y2 := HH2.out.cell (i := 2) rfl
    have HM2 := Zd HMM.out
    have HMT : Hid (mm + m * 4 <= 4000) := Zd (by have := HMS.out; omega)
    clear HO HB HG HMS
    generalize chans.flatMap (fun x => chanI c.cap x.p) = PL at *
    go_upto_region 10 with fail
    clear y2 HH2
    go_loopg [5, 40] m (fun gg o i wr => ∃ (j : Nat) (A1 : Option Addr) (c1 mj : Nat), j <= m /\ gg = m - j /\ i = .int .i64 j /\ o = .slice A1 mj c1 /\ mj = mm + j * 4 /\ wr.ownsRow w1.heap.size 95 1 (.slice A1 mj c1) mj (words (tk :: PL ++ (waits.take j).flatMap (fun x => waitI x.p))) /\ Below w1.heap.size w1 wr)
    case atStart => exact ⟨0, A1, c1, mm, Nat.zero_le _, rfl, rfl, rfl, by omega, by simpa using HO1.out, HB1a.out⟩
    case round =>
     obtain ⟨j, A2, c2, mj, hj, hg, rfl, rfl, hmm, how, hb⟩ := hrel
     have HG := Zd hg
     have HB := Zd hb
     have HO := Zd how
     have HMJ := Zd hmm
     clear hg hb how HO1 HB1a hmm
     by_cases hlt : j < m
     . have HRC := Zd (fun W (hb : Below w1.heap.size w1 W) => HX.out.wr.rd.below (btr HB1.out hb))
       have HMS : Hid (mj + 4 <= 4000) := Zd (by have := HMT.out; have := HMJ.out; omega)
       obtain ⟨b, o, hWA, hbl, hcell⟩ := (HRC.out wr HB.out).at_ (by rw [rows_length, HM.out]; simp only [Cellful.s]; omega)
       subst hWA
       have hkl : j < waits.length := by rw [HM.out]; exact hlt
       obtain ⟨x, hxx⟩ : ∃ x : Wtr, x = waits.getD j Wtr.none := ⟨_, rfl⟩
       have HMX : Hid (x ∈ waits) := Zd (by rw [hxx]; exact mem_getD hkl)
       have hwf := HF.out.wt x HMX.out
       have hbo := bitI_rng x.on
       have hsl : (x.cs.length : Int) <= 3 := by have := hwf.2.2.2; omega
       obtain ⟨o1, o2, o3⟩ := whead_parts (n := (x.cs.length : Int)) hbo ⟨by omega, hsl⟩ hwf.2.2.1 hwf.2.1
       have HWH : Hid (wHeadI x.p = bitI x.on + (x.cs.length : Int) * 2 + x.seq * 16 + x.ticket * 4294967296) := Zd (by
        show bitI x.on + 2 * (x.cs.length : Int) + 16 * x.seq + 4294967296 * x.ticket = _
        omega)
       rw [<- HWH.out] at o3
       have HRW : Hid (words (tk :: PL ++ (waits.take (j + 1)).flatMap (fun x => waitI x.p)) = words ((tk :: PL ++ (waits.take j).flatMap (fun x => waitI x.p) ++ [wHeadI x.p]) ++ rowI (x.cs.map caseI) 3)) := Zd (by
        rw [HT2.out j (by omega), <- hxx]
        simp only [List.append_assoc]
        rfl)
       obtain ⟨c0, d1, d2, d3⟩ := wtr_cells hcell hkl hxx.symm
       have HRS := Zd (fun W (hb : Below w1.heap.size w1 W) => (HX.out.wr.cs x HMX.out).below (btr HB1.out hb))
       have HFQ := Zd hwf.1
       have HFL := Zd (fun W => kflag_any x.on W)
       have HSZ := Zd HB.out.size
       have hn3 : x.cs.length <= 3 := hwf.2.2.2
       obtain ⟨⟨e0, e1⟩, ⟨e2, e3⟩, _⟩ := hwf.2
       obtain ⟨e4, e5⟩ := hbo
       have v0 : IntKind.u64.wrap (x.cs.length : Int) = (x.cs.length : Int) := IntWalk.u64_in _ (by omega)
       have v1 : IntKind.u64.wrap ((x.cs.length : Int) * 2) = (x.cs.length : Int) * 2 := IntWalk.u64_in _ (by omega)
       have v2 : IntKind.u64.wrap x.seq = x.seq := IntWalk.u64_in _ (by omega)
       have v3 : IntKind.u64.wrap (x.seq * 16) = x.seq * 16 := IntWalk.u64_in _ (by omega)
       have v4 : IntKind.u64.wrap x.ticket = x.ticket := IntWalk.u64_in _ (by omega)
       have v5 : IntKind.u64.wrap (x.ticket * 4294967296) = x.ticket * 4294967296 := IntWalk.u64_in _ (by omega)
       clear hcell hxx hwf
       generalize wHeadI x.p = hd at *
       generalize bitI x.on = bo at *
       have HGX : Hid (Blk (wr.alloc (.cells #[.bool x.on, .int .i64 x.ticket, .int .i64 x.seq, .slice x.A x.cs.length x.c] 128)) wr.heap.size 128 [.bool x.on, .int .i64 x.ticket, .int .i64 x.seq, .slice x.A x.cs.length x.c]) := Zd (blk_new rfl)
       have HAX := Zd ((Below.refl wr.heap.size wr).alloc (Nat.le_refl _) (.cells #[.bool x.on, .int .i64 x.ticket, .int .i64 x.seq, .slice x.A x.cs.length x.c] 128))
       go_upto_region 12 with fail
       have HOX := Zd (own_below HO.out HAX.out)
       have HBV := Zd (HB.out.trans (HAX.out.mono HB.out.size))
       have hgs : wr.heap.size < (wr.alloc (.cells #[.bool x.on, .int .i64 x.ticket, .int .i64 x.seq, .slice x.A x.cs.length x.c] 128)).heap.size := HGX.out.lt
       clear HAX c0 d1 d2 d3
       generalize wr.alloc (.cells #[.bool x.on, .int .i64 x.ticket, .int .i64 x.seq, .slice x.A x.cs.length x.c] 128) = V at *
       generalize wr.heap.size = gx at *
       have HSS : Hid (∀ W', Blk W' gx 128 [.bool x.on, .int .i64 x.ticket, .int .i64 x.seq, .slice x.A x.cs.length x.c] -> (fun w' => w'.cell? ⟨gx, 0, none⟩ = some (.bool x.on) /\ w'.cell? ⟨gx, 1, none⟩ = some (.int .i64 x.ticket) /\ w'.cell? ⟨gx, 2, none⟩ = some (.int .i64 x.seq) /\ w'.cell? ⟨gx, 3, none⟩ = some (.slice x.A x.cs.length x.c)) W') := Zd (fun W' hX => ⟨hX.cell (i := 0) rfl, hX.cell (i := 1) rfl, hX.cell (i := 2) rfl, hX.cell (i := 3) rfl⟩)
       refine AnyT.region (S := fun w' => w'.cell? ⟨gx, 0, none⟩ = some (.bool x.on) /\ w'.cell? ⟨gx, 1, none⟩ = some (.int .i64 x.ticket) /\ w'.cell? ⟨gx, 2, none⟩ = some (.int .i64 x.seq) /\ w'.cell? ⟨gx, 3, none⟩ = some (.slice x.A x.cs.length x.c)) (k := 22) (by kernel_rfl) (HSS.out _ (Blk.drew HGX.out)) (fun hHeld => ?_)
       refine AnyT.tkp 0 (.slice A2 mj c2) rfl hHeld ?_
       refine AnyT.tkp 1 (.pointer (some ⟨gx, 0, none⟩)) rfl hHeld ?_
       refine AnyT.tk 2 (.bool x.on) rfl (Or.inl ⟨by rfl, fun w hSw => by obtain ⟨h0, h1, h2, h3⟩ := hSw; go_simp⟩) hHeld ?_
       refine AnyT.tkp 4 (.pointer (some ⟨gx, 3, none⟩)) rfl hHeld ?_
       refine AnyT.tk 5 (.slice x.A x.cs.length x.c) rfl (Or.inl ⟨by rfl, fun w hSw => by obtain ⟨h0, h1, h2, h3⟩ := hSw; go_simp⟩) hHeld ?_
       refine AnyT.tkp 6 (.int .i64 (x.cs.length : Int)) rfl hHeld ?_
       refine AnyT.tkp 7 (.int .u64 (x.cs.length : Int)) rfl hHeld ?_
       refine AnyT.tkp 8 (.int .u64 ((x.cs.length : Int) * 2)) rfl hHeld ?_
       refine AnyT.tkp 10 (.pointer (some ⟨gx, 2, none⟩)) rfl hHeld ?_
       refine AnyT.tk 11 (.int .i64 x.seq) rfl (Or.inl ⟨by rfl, fun w hSw => by obtain ⟨h0, h1, h2, h3⟩ := hSw; go_simp⟩) hHeld ?_
       refine AnyT.tkp 12 (.int .u64 x.seq) rfl hHeld ?_
       refine AnyT.tkp 13 (.int .u64 (x.seq * 16)) rfl hHeld ?_
       refine AnyT.tkp 15 (.pointer (some ⟨gx, 1, none⟩)) rfl hHeld ?_
       refine AnyT.tk 16 (.int .i64 x.ticket) rfl (Or.inl ⟨by rfl, fun w hSw => by obtain ⟨h0, h1, h2, h3⟩ := hSw; go_simp⟩) hHeld ?_
       refine AnyT.tkp 17 (.int .u64 x.ticket) rfl hHeld ?_
       refine AnyT.tkp 18 (.int .u64 (x.ticket * 4294967296)) rfl hHeld ?_
       try simp only [Nrq, Nrs]
       have HGD := Zd (Blk.drew HGX.out)
       have HOD := Zd (own_below HOX.out (Below.refl V.heap.size V).drew)
       have HBD := Zd HBV.out.drew
       clear HGX HOX HBV
       generalize V.drew = VD at *
       refine AnyT.next (i := 3) (by kernel_rfl) rfl (fun K hK => ?_)
       clear hHeld
       rw [if_pos (by rfl)]
       try simp only [Nrq]
       go_simp
       refine (HFL.out VD).mono ?_
       rintro er w2 ⟨rfl, rfl⟩
       go_wp2_with fail
       refine hK.out _ _ (HSS.out _ HGD.out) (fun hHeld => ?_)
       clear hK K
       try simp only [Nrq, Nrs]
       refine AnyT.tkp 9 (.int .u64 (bo + (x.cs.length : Int) * 2)) rfl hHeld ?_
       refine AnyT.tkp 14 (.int .u64 (bo + (x.cs.length : Int) * 2 + x.seq * 16)) rfl hHeld ?_
       refine AnyT.tkp 19 (.int .u64 hd) rfl hHeld ?_
       try simp only [Nrq, Nrs]
       have HG3 := Zd (HGD.out.alloc (.cells #[.int .u64 hd] 95))
       have HO3 := Zd (HOD.out.alloc (.cells #[.int .u64 hd] 95))
       have HB3 := Zd (HBD.out.alloc HBD.out.size (.cells #[.int .u64 hd] 95))
       have HR3 : Hid (Rd (w2.alloc (.cells #[.int .u64 hd] 95)) (some ⟨w2.heap.size, 0, none⟩) (words [hd])) := Zd (blk_new (cs := words [hd]) rfl).rd
       refine AnyT.next (i := 20) (by kernel_rfl) rfl (fun K hK => ?_)
       clear hHeld
       rw [if_pos (by rfl)]
       try simp only [Nrq]
       go_simp
       refine hK.out _ _ (HSS.out _ HG3.out) (fun hHeld => ?_)
       clear hK K HGD HOD HBD
       try simp only [Nrq, Nrs]
       have HN3 : Hid ((some (⟨w2.heap.size, 0, none⟩ : Addr)) = none -> False) := Zd (by simp)
       generalize (some (⟨w2.heap.size, 0, none⟩ : Addr)) = A3 at *
       generalize w2.alloc (.cells #[.int .u64 hd] 95) = w3 at *
       have HS3 : Hid (w1.heap.size <= w3.heap.size) := Zd HB3.out.size
       refine AnyT.next (i := 21) (by kernel_rfl) rfl (fun K hK => ?_)
       clear hHeld
       rw [if_pos (by rfl)]
       try simp only [Nrq]
       refine wp_app (.tmp 44) (.tmp 64) 53 95 rfl w1.heap.size (.int .u64 0) 1 8 Tryz.underlying53 CloneW_info rfl (by decide) A2 mj c2 (words (tk :: PL ++ (waits.take j).flatMap (fun x => waitI x.p))) (by rfl) HO3.out A3 1 1 (words [hd]) (by rfl) (fun e => (HN3.out e).elim) rfl HR3.out (words_one _) (mj + 1) rfl (words (tk :: PL ++ (waits.take j).flatMap (fun x => waitI x.p) ++ [hd])) (by rw [wordsApp]) (by have := HMS.out; unfold maxLen; omega) (by have := HMS.out; omega) HS3.out ?_
       intro A4 c4 w4 hown4 hg4 hb4
       have HG4 := Zd (blk_grown HG3.out hg4 (own_blk_neL HO3.out HG3.out (by decide)))
       have HO4 := Zd hown4
       have HB4 := Zd (HB3.out.trans hb4)
       have HS4 : Hid (w1.heap.size <= w4.heap.size) := Zd HB4.out.size
       refine hK.out _ _ (HSS.out _ HG4.out) (fun hHeld => ?_)
       clear hK K hown4 hg4 hb4 HG3 HO3 HB3 HR3 HS3
       try simp only [Nrs]
       refine AnyT.past (i := 22) (by kernel_rfl) (by kernel_rfl) rfl (fun K hK => ?_)
       rw [if_pos (by rfl)]
       try simp only [Nrq]
       go_simp
       try go_wp2_with fail
       refine hK.out _ _ ?_
       clear hK K
       try simp only [Nrq, Nrs]
       refine AnyT.done (by kernel_rfl) ?_ _
       clear hHeld
       have d3 : w4.cell? ⟨gx, 3, none⟩ = some (.slice x.A x.cs.length x.c) := HG4.out.cell (i := 3) rfl
       have hg4 := HG4.out.lt
       have HPC := Zd (pCall_any ⟨3, 0, 0, false, x.A, x.cs.length, x.c⟩ x.cs 0 w4 ⟨rfl, HRS.out w4 HB4.out⟩)
       have HCL : Hid (∃ hq, callI (Reqr.p ⟨3, 0, 0, false, x.A, x.cs.length, x.c⟩ x.cs) 0 = hq :: (rowI (x.cs.map caseI) 3 ++ [0])) := Zd ⟨_, if_pos ⟨HFQ.out, by decide⟩⟩
       generalize callI (Reqr.p ⟨3, 0, 0, false, x.A, x.cs.length, x.c⟩ x.cs) 0 = cw at *
       obtain ⟨hq, hcw⟩ := HCL.out
       subst hcw
       have HCW := Zd (rowI_len (x.cs.map caseI) 3)
       generalize rowI (x.cs.map caseI) 3 = cr at *
       clear HCL
       unfold reqV at HPC
       simp only at HPC
       clear v0 v1 v2 v3 v4 v5 o1 o2 o3
       have hl5 : (hq :: (cr ++ [0])).length = 5 := by simp [HCW.out]
       have HPD : Hid (Calls Tryz.prog 77 #[.agg #[.int .i64 3, .int .i64 0, .int .i64 0, .bool false, .slice x.A x.cs.length x.c], .int .i64 0] w4 (RetMore w4.heap.size 5 (hq :: (cr ++ [0])) w4)) := Zd (by
        have := HPC.out
        unfold RetWords at this
        rw [hl5] at this
        exact this)
       clear HPC hl5
       go_upto_region 14 with (go_at_call 77; refine HPD.out.mono ?_; rintro er w5 ⟨A5, c5, rfl, hown5, hb5⟩; have HO5 := Zd hown5; have HB5 := Zd hb5; clear hown5 hb5)
       obtain ⟨g5, hA5, hg5, hg5b⟩ := own_some HO5.out (by decide)
       subst hA5
       have hc5 : 5 <= c5 := own_cap HO5.out
       have HR5 : Hid (Rd w5 (some ⟨g5, 1, none⟩) (words cr)) := Zd (own_rd_mid HO5.out)
       have q5 : (4 : Int) <= (c5 : Int) := by omega
       have HOC := Zd (own_below HO4.out HB5.out)
       have HSC : Hid (w1.heap.size <= w5.heap.size) := Zd (Nat.le_trans HS4.out HB5.out.size)
       clear hg4 d3 HG4 HO4
       go_wp2_with (at_builtin; refine wpList_app rfl (.tmp 70) (.tmp 72) 53 95 rfl w1.heap.size (.int .u64 0) 1 8 Tryz.underlying53 CloneW_info rfl (by decide) A4 (mj + 1) c4 _ rfl HOC.out (some ⟨g5, 1, none⟩) 3 (c5 - 1) (words cr) rfl (by simp) (by rw [words_length, HCW.out]) HR5.out (words_one _) (mj + 4) (by omega) (words (tk :: PL ++ (waits.take (j + 1)).flatMap (fun x => waitI x.p))) (by rw [HRW.out, wordsApp]) (by have := HMS.out; unfold maxLen; omega) (by have := HMS.out; omega) HSC.out ?_; intro A6 c6 w6 hown6 hg6 hb6)
       go_roundg (m - (j + 1))
       case measure => rw [HG.out]; omega
       case rel => exact ⟨j + 1, A6, c6, mj + 4, by omega, rfl, by go_num, rfl, by rw [HMJ.out]; omega, hown6, (HB4.out.trans (HB5.out.mono HS4.out)).trans hb6⟩
     . obtain rfl : j = m := by omega
       have HO3 : Hid (wr.ownsRow w1.heap.size 95 1 (.slice A2 mj c2) mj (words (tk :: PL ++ waits.flatMap (fun x => waitI x.p)))) := Zd (by have := HO.out; rw [HL2.out] at this; exact this)
       have HH3 := Zd (HH1.out.below HB.out HH1.out.lt)
       have y3 := HH3.out.cell (i := 3) rfl
       have HRE := Zd (kresults_int w1.heap.size A2 mj c2 (tk :: PL ++ waits.flatMap (fun x => waitI x.p)) DA dc dl dn wr HL.out HB.out.size HO3.out (by omega) (by have := HMT.out; have := HMJ.out; omega) (fun w' hw' => HX.out.dr.below (HB1.out.trans ((HB.out.trans hw').mono HB1.out.size))))
       go_wp2_with (go_at_call 78; refine HRE.out.mono ?_; rintro er w5 ⟨A5, c5, rfl, hown5, hb5⟩)
       go_ret
       have e1 : R = (tk :: PL ++ waits.flatMap (fun x => waitI x.p)) ++ dn.map resI := by rw [HV.out]; simp
       have e2 : R.length = mj + dl := by rw [HLEN.out, HMJ.out, HM2.out]
       refine ⟨A5, c5, by rw [e2]; rfl, ?_, HB1.out.trans ((HB.out.trans hb5).mono HB1.out.size)⟩
       rw [e2, e1]
       exact own_lower hown5 HB1.out.size
theorem and_pow (u k : Nat) (h : u < 18446744073709551616) (m P : Int) (hk : 2 ^ k <= 18446744073709551616) (hm : m = ((2 ^ k - 1 : Nat) : Int)) (hP : P = ((2 ^ k : Nat) : Int)) : bits BinOp.and IntKind.u64 (u : Int) m = (u : Int) % P := by
 subst hm hP
 have h1 := bits_and_u64_nat u (2 ^ k - 1) h (by omega)
 rw [Nat.and_two_pow_sub_one_eq_mod] at h1
 exact h1.trans (by simp)
theorem shr_and (u q k : Nat) (h : u < 18446744073709551616) (Q m P : Int) (hQ : Q = (q : Int)) (hk : 2 ^ k <= 18446744073709551616) (hm : m = ((2 ^ k - 1 : Nat) : Int)) (hP : P = ((2 ^ k : Nat) : Int)) : bits BinOp.and IntKind.u64 ((u : Int) / Q) m = (u : Int) / Q % P := by
 subst hQ
 have := and_pow (u / q) k (Nat.lt_of_le_of_lt (Nat.div_le_self _ _) h) m P hk hm hP
 rw [Int.natCast_ediv] at this
 exact this
theorem rdr_channel (g b : Nat) (L : List Int) (c : Cfg) (cn : Nat) (w : World) (h : RdrAt w g b L) (hcap : c.cap = cn) (hc16 : cn <= 16) (hn : 1 + cn <= L.length) :
  Calls Tryz.prog 135 #[.pointer (some ⟨g, 0, none⟩), cfgV c] w fun e w' =>
   ∃ y : Chn, e = .returned (chnV y) /\ y.p = chanR cn L /\ OwnBuf w.heap.size w' y /\ RdrAt w' g b (L.drop (1 + cn)) /\ Only g w w' := by
 match L, h, hn with
 | [], _, hn => simp at hn
 | x0 :: M, h, hn =>
   have hbig := h.big x0 (List.mem_cons_self ..)
   obtain ⟨u, rfl⟩ : ∃ u : Nat, x0 = u := ⟨x0.toNat, by omega⟩
   have hu : u < 18446744073709551616 := by omega
   have hgl := h.gl
   have hbl := h.bl
   have HM : Hid (cn <= M.length) := Zd (by simp at hn; omega)
   have HDR : Hid (((u : Int) :: M).drop (1 + cn) = M.drop cn) := Zd (by rw [Nat.add_comm]; rfl)
   have HCR : Hid (chanR cn ((u : Int) :: M) = ⟨(u : Int) % 4096, (u : Int) / 4096 % 16, (u : Int) / 65536 % 2 == 1, (u : Int) / 131072 % 2 == 1, rowR ((u : Int) / 1048576 % 16) cn M⟩) := Zd rfl
   have f1 := and_pow u 12 hu 4095 4096 (by decide) rfl rfl
   have f2 := shr_and u 4096 4 hu 4096 15 16 rfl (by decide) rfl rfl
   have f3 := shr_and u 65536 1 hu 65536 1 2 rfl (by decide) rfl rfl
   have f4 := shr_and u 131072 1 hu 131072 1 2 rfl (by decide) rfl rfl
   have f5 := shr_and u 1048576 4 hu 1048576 15 16 rfl (by decide) rfl rfl
   have p1 : 0 <= (u : Int) % 4096 /\ (u : Int) % 4096 < 4096 := by omega
   have p2 : 0 <= (u : Int) / 4096 % 16 /\ (u : Int) / 4096 % 16 < 16 := by omega
   have p5 : 0 <= (u : Int) / 1048576 % 16 /\ (u : Int) / 1048576 % 16 < 16 := by omega
   obtain ⟨p1a, p1b⟩ := p1
   obtain ⟨p2a, p2b⟩ := p2
   obtain ⟨p5a, p5b⟩ := p5
   obtain ⟨b0, b1, hb0⟩ := box2 w 24 124 (cfgCells c) Chn.none.cells
   have HBC := Zd b0
   have HBZ := Zd b1
   have HBX := Zd hb0
   clear b0 b1 hb0
   unfold cfgCells Chn.none Chn.cells at HBC HBZ HBX
   rw [hcap] at HBC HBZ HBX
   have HNX := Zd (fun W (hW : Below w.heap.size w W) => rdr_next g b (u : Int) M W (h.low hW hgl hbl))
   have HRW := Zd (fun W (hW : RdrAt W g b M) => rdr_row g b M ((u : Int) / 1048576 % 16) cn W hW HM.out (by omega))
   clear h hn hbig hu
   unfold cfgV
   rw [hcap]
   clear hcap
   generalize (u : Int) % 4096 = z1 at *
   generalize (u : Int) / 4096 % 16 = z2 at *
   generalize (u : Int) / 65536 % 2 = z3 at *
   generalize (u : Int) / 131072 % 2 = z4 at *
   generalize (u : Int) / 1048576 % 16 = z5 at *
   generalize chanR cn ((u : Int) :: M) = R at *
   go_enter Tryz.func135, Tryz.ntmps135
   go_upto_region 2 with (go_at_call 134; refine (HNX.out _ HBX.out).mono ?_; rintro er w1 ⟨rfl, hr1, ho1⟩; have HR1 := Zd hr1; have HO1 := Zd ho1; clear hr1 ho1)
   have n1 : w.heap.size ≠ g := Nat.ne_of_gt hgl
   have n2 : w.heap.size + 1 ≠ g := by omega
   have HC1 := Zd (HBC.out.only HO1.out n1)
   have HZ1 := Zd (HBZ.out.only HO1.out n2)
   have HON1 := Zd ((Only.of_below (g := g) HBX.out).trans HO1.out)
   have hsz1 : w.heap.size + 2 <= w1.heap.size := by have := HZ1.out.lt; omega
   clear HBC HBZ HBX HO1 HNX
   go_upto_region 3 with fail
   generalize (z3 == 1) = e3 at *
   generalize (z4 == 1) = e4 at *
   have HK6 : Hid (Blk (w1.alloc (.cells #[.int .i64 z1, .int .i64 z2, .bool e3, .bool e4, .slice none 0 0] 124)) w1.heap.size 124 [.int .i64 z1, .int .i64 z2, .bool e3, .bool e4, .slice none 0 0]) := Zd (blk_new rfl)
   have HBV := Zd ((Below.refl w1.heap.size w1).alloc (Nat.le_refl _) (.cells #[.int .i64 z1, .int .i64 z2, .bool e3, .bool e4, .slice none 0 0] 124))
   have HRV := Zd (HR1.out.below HBV.out)
   have HCV := Zd (HC1.out.below HBV.out HC1.out.lt)
   have HZV := Zd (HZ1.out.below HBV.out HZ1.out.lt)
   have HOV := Zd (HON1.out.then_ (HBV.out.mono (by omega : w.heap.size <= w1.heap.size)))
   clear HBV HC1 HZ1 HR1 HON1
   have n3 : g ≠ w1.heap.size := by omega
   generalize w1.alloc (.cells #[.int .i64 z1, .int .i64 z2, .bool e3, .bool e4, .slice none 0 0] 124) = V at *
   generalize w1.heap.size = k6 at *
   have y3 := HCV.out.cell (i := 3) rfl
   have HRW1 := Zd (HRW.out V HRV.out)
   clear HRW HRV
   go_upto_region 4 with (go_at_call 162; refine HRW1.out.mono ?_; rintro er w3 ⟨A3, c3, rfl, how3, hr3, ho3⟩; have HO3 := Zd how3; have HR3 := Zd hr3; have HN3 := Zd ho3; have HK3 := Zd (HK6.out.only ho3 n3.symm); have HZ3 := Zd (HZV.out.only ho3 n2); have k4 := HK3.out.cell (i := 4) rfl; have k4f := HK3.out.frozen 4; clear how3 hr3 ho3)
   have HKS := Zd (HK3.out.set_ 4 (.slice A3 (rowR z5 cn M).length c3))
   have HZS := Zd (HZ3.out.other (by omega : w.heap.size + 1 ≠ k6) 4 (.slice A3 (rowR z5 cn M).length c3))
   have HOS := Zd (own_ty HO3.out HK3.out (by decide) 4 (.slice A3 (rowR z5 cn M).length c3))
   have hV3 : V.heap.size <= w3.heap.size := HN3.out.size
   have hkk : k6 < V.heap.size := HK6.out.lt
   have HBS := Zd ((Below.refl k6 w3).setCell (p := ⟨k6, 4, none⟩) (Nat.le_refl _) (.slice A3 (rowR z5 cn M).length c3))
   clear k4 k4f y3 HK6 HZV HCV
   generalize w3.setCell ⟨k6, 4, none⟩ (.slice A3 (rowR z5 cn M).length c3) = W4 at *
   have k0 := HKS.out.cell (i := 0) rfl
   have k1 := HKS.out.cell (i := 1) rfl
   have k2 := HKS.out.cell (i := 2) rfl
   have k3 := HKS.out.cell (i := 3) rfl
   have k4 := HKS.out.cell (i := 4) rfl
   have z0c := HZS.out.cell (i := 0) rfl
   have z0f := HZS.out.frozen 0
   have z1c := HZS.out.cell (i := 1) rfl
   have z1f := HZS.out.frozen 1
   have z2c := HZS.out.cell (i := 2) rfl
   have z2f := HZS.out.frozen 2
   have z3c := HZS.out.cell (i := 3) rfl
   have z3f := HZS.out.frozen 3
   have z4c := HZS.out.cell (i := 4) rfl
   have z4f := HZS.out.frozen 4
   go_wp2_with fail
   refine bodyPost_ret (v := chnV ⟨z1, z2, e3, e4, A3, c3, rowR z5 cn M⟩) (ret_cell (g := w.heap.size + 1) rfl rfl (chn_load (x := ⟨z1, z2, e3, e4, A3, c3, rowR z5 cn M⟩) (((((HZS.out.set_ 0 _).set_ 1 _).set_ 2 _).set_ 3 _).set_ 4 _) rfl)) rfl ?_
   refine ⟨⟨z1, z2, e3, e4, A3, c3, rowR z5 cn M⟩, rfl, by rw [HCR.out]; rfl, ?_, ?_, ?_⟩
   . exact own_put5 (own_lower HOS.out (by omega)) HZS.out (by decide)
   . rw [HDR.out]
     exact HR3.out.low (below5 (HBS.out.mono (by omega : w.heap.size <= k6)) (g := w.heap.size + 1) (by omega)) hgl hbl
   . exact (HOV.out.trans HN3.out).then_ (below5 (HBS.out.mono (by omega : w.heap.size <= k6)) (g := w.heap.size + 1) (by omega))
end Go.Proofs.YtieglgahfeecbaaGreatDoor
