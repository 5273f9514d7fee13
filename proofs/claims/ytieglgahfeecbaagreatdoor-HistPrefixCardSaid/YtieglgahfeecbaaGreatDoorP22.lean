/- hall: a channel is made: walked. (printed by gen_ha10.py) -/
import Derived.Test.YtieglgahfeecbaaGreatDoorP17
import Derived.Test.YtieglgahfeecbaaGreatDoorP18
import Derived.Test.YtieglgahfeecbaaGreatDoorP21
set_option maxHeartbeats 64000000
set_option maxRecDepth 100000
namespace Go.Proofs.YtieglgahfeecbaaGreatDoor
open Go.RowKit Go.Sort
attribute [local go_sem ↓] Go.wp_at_zero Go.wp_at_succ
theorem hChoose_any (base g : Nat) (h : Hal) (c : Cfg) (t n : Int) (q : Reqr) (cs : List Cse) (w : World) (H : HSt base g w h c t n) (hf : HalFew h) (htk : 0 <= h.ticket) (hr : Rd w q.A (rows cs)) (hn : q.n = cs.length) (hl : cs.length <= 1048576) :
  Calls Tryz.prog 173 #[.pointer (some ⟨g, 0, none⟩), reqV q] w (RetStK base g h c t n (chooseS h.p t n (q.p cs)).1 (chooseS h.p t n (q.p cs)).2 w) := by
 obtain ⟨b0, b1, hb2⟩ := box2 w 40 42 q.cells [.int .i64 0, .int .i64 0, .int .i64 0, .int .i64 0]
 have HY0 := Zd b0
 have HZ := Zd b1
 have HA := Zd hb2
 have HH := Zd (fun W (hb : Below w.heap.size w W) => H.below hb)
 have HF := Zd hf
 have HO := Zd H
 have HRD := Zd (fun W (hb : Below w.heap.size w W) => hr.below hb)
 have HCS := Zd (fun W (hb : Below w.heap.size w W) => hCases_any base g h c t n q.A q.c cs W (H.below hb) hf.cf (HRD.out W hb) hl)
 have hgl := H.lt
 have hnw := H.new
 generalize hR : chooseS h.p t n (q.p cs) = R at *
 have HR0 := Zd hR
 rw [<- hn] at HCS
 have HN := Zd hn
 have HL := Zd hl
 clear H hf hR hr hn hl b0 b1 hb2
 unfold Reqr.cells at HY0 HZ HA
 unfold reqV
 have hg1 : g ≠ w.heap.size := Nat.ne_of_lt hgl
 have hg2 : g ≠ w.heap.size + 1 := by omega
 go_enter Tryz.func173, Tryz.ntmps173
 go_upto_region 1 with fail
 generalize ((w.alloc (.cells #[.int .i64 q.kind, .int .i64 q.arg, .int .i64 q.value, .bool q.dflt, .slice q.A q.n q.c] 40)).alloc (.cells #[.int .i64 0, .int .i64 0, .int .i64 0, .int .i64 0] 42)) = W0 at *
 obtain ⟨q0, q1, q2, q3, q4⟩ := reqBox (q := q) HY0.out
 go_upto_region 2 with (go_at_call 196
                        refine (HCS.out _ HA.out).mono ?_
                        rintro er w1 ⟨rfl, hb1⟩
                        have HB1 := Zd (btr HA.out hb1)
                        have HZ1 := Zd (HZ.out.below hb1 HZ.out.lt)
                        have HQ1 := Zd (HY0.out.below hb1 HY0.out.lt)
                        have HS1 := Zd (HH.out _ HB1.out)
                        clear hb1 q0 q1 q2 q3 q4)
 generalize hcz : casesS (h.chans.map Chn.p) cs = z at *
 by_cases h0 : z = 0
 . subst h0
   obtain ⟨hl1, hl2, hall⟩ := cases_zero hcz
   have HAL := Zd hall
   have HR1 : Hid (R = match pickK h.p cs 0 with | some (i, k) => oneS h.p i k | .none => if q.dflt = true then (h.p, rC 10) else if 4294967295 <= h.ticket then (h.p, rC 7) else if (putS (h.waits.map Wtr.p) t ⟨true, h.ticket, n, cs⟩).2 = false then (h.p, rC 13) else (⟨h.ticket + 1, h.chans.map Chn.p, (putS (h.waits.map Wtr.p) t ⟨true, h.ticket, n, cs⟩).1, h.done⟩, rC 14)) := Zd (by
    rw [<- HR0.out]; unfold chooseS; rw [if_neg (show ¬ casesS h.p.chans (q.p cs).cs ≠ 0 from by rw [show casesS h.p.chans (q.p cs).cs = 0 from hcz]; simp)]; rfl)
   clear HR0 HCS hcz hall
   obtain ⟨bC, oC, hA, hbC, hcC⟩ := (HRD.out _ HB1.out).at_ (by rw [rows_length]; exact Nat.mul_pos hl1 (by decide))
   have HCC := Zd hcC
   clear hcC
   obtain ⟨q0, q1, q2, q3, q4⟩ := reqBox (q := q) HQ1.out
   rw [hA] at q4
   rw [hA]
   have HQA := Zd hA
   clear hA
   generalize hm : q.n = m at *
   have HM := Zd HN.out
   clear hm HN
   have hm3 : m <= 3 := by have := HM.out; omega
   have HK := Zd (fun W (hb : Below w1.heap.size w1 W) => (HS1.out.below hb))
   have HFI := Zd (fun hd W (hb : Below w1.heap.size w1 W) => hFind_any h hd W ((HK.out W hb).own.cr |> own_rd) HF.out.cf)
   unfold halV at HFI
   have hgl1 : g < w1.heap.size := HS1.out.lt
   have hbC1 : bC < w1.heap.size := hbC
   have HSZ := Zd HB1.out.size
   have HIX := Zd (fun hd (hb : findB (h.chans.map Chn.p) hd = true) => find_yes hb)
   go_wp2_with fail
   clear q0 q1 q2 q3 q4
   go_loopg [23] m (fun gg i wr => ∃ k : Nat, k <= m /\ gg = m - k /\ i = .int .i64 k /\ pickK h.p cs 0 = pickK h.p (cs.drop k) k /\ Below w1.heap.size w1 wr)
   case atStart => exact ⟨0, Nat.zero_le _, rfl, rfl, rfl, Below.refl _ _⟩
   case round =>
    obtain ⟨k, hk, hg, rfl, hpk, hbr⟩ := hrel
    have HG := Zd hg
    have HPK := Zd hpk
    have HBR := Zd hbr
    clear hg hpk hbr
    by_cases hlt : k < m
    . generalize hx : cs.getD k Cse.none = x
      obtain ⟨c0, c1, c2⟩ := cse_cells (w := wr) (b := bC) (o := oC) (fun i v hi => by rw [HBR.out.cell (p := ⟨bC, oC + i, none⟩) hbC1]; exact HCC.out i v hi) (by rw [<- HM.out]; exact hlt) hx
      obtain ⟨hokx, hfx⟩ := HAL.out k (by rw [<- HM.out]; exact hlt)
      have hpd := pick_drop h.p cs k k (by rw [<- HM.out]; exact hlt)
      rw [hx] at hokx hfx hpd
      rw [hpd] at HPK
      clear hx hpd hokx
      obtain ⟨ix, hi1, hi2, hi3, hi4, hu5, hu6⟩ := HIX.out x.handle hfx
      clear hu5 hu6
      obtain ⟨kd, kh, kv⟩ := x
      simp only at c0 c1 c2 hfx hi1 hi2 hi4 HPK
      have HBX : Hid (Blk (wr.alloc (.cells #[.int .i64 kd, .int .i64 kh, .int .i64 kv] 100)) wr.heap.size 100 [.int .i64 kd, .int .i64 kh, .int .i64 kv]) := Zd (blk_new rfl)
      have HAX := Zd (HBR.out.trans (((Below.refl wr.heap.size wr).alloc (Nat.le_refl _) (.cells #[.int .i64 kd, .int .i64 kh, .int .i64 kv] 100)).mono HBR.out.size))
      have q0 : (0 : Int) <= (k : Int) := by omega
      have q1 : (k : Int) < (m : Int) := by omega
      go_upto_region 7 with fail
      clear c0 c1 c2
      have hgw : g < wr.heap.size := Nat.lt_of_lt_of_le hgl1 HBR.out.size
      have hg3 : g ≠ wr.heap.size := Nat.ne_of_lt hgw
      generalize wr.alloc (.cells #[.int .i64 kd, .int .i64 kh, .int .i64 kv] 100) = W1 at *
      obtain ⟨s0, s1, s2, s3⟩ := (HK.out _ HAX.out).hal
      have x1 := HBX.out.cell (i := 1) rfl
      have k0 : g < W1.heap.size := (HK.out _ HAX.out).lt
      have k1 : wr.heap.size < W1.heap.size := HBX.out.lt
      have HFK := Zd (HFI.out kh)
      rw [hi1, hfx] at HFK
      have HI := Zd hi2
      have HJ := Zd hi3
      have HFX := Zd hfx
      clear hi1 hi2 hi3 hi4 hfx
      go_region_held3 (fun w' => w'.cell? ⟨g, 0, none⟩ = some (.int .i64 h.ticket) /\ w'.cell? ⟨g, 1, none⟩ = some (.slice h.CA h.chans.length h.cc) /\ w'.cell? ⟨g, 2, none⟩ = some (.slice h.WA h.waits.length h.wc) /\ w'.cell? ⟨g, 3, none⟩ = some (.slice h.DA h.done.length h.dc) /\ w'.cell? ⟨wr.heap.size, 1, none⟩ = some (.int .i64 kh)) (first | go_keep | (simp only [hk1, hk2]; go_keep)) (first
       | (go_at_call 194
          refine (HFK.out _ ?_).mono ?_
          . first | exact HAX.out | exact HAX.out.drew
          rintro er w3 ⟨rfl, hb1'⟩
          have hb1 : Below W1.heap.size W1 w3 := ⟨hb1'.os, hb1'.tape, hb1'.output, hb1'.size, hb1'.block⟩
          have hk1 := fun o => hb1.cell (p := ⟨g, o, none⟩) k0
          have hk2 := fun o => hb1.cell (p := ⟨wr.heap.size, o, none⟩) k1))
      rename_i hheld7
      clear hheld7
      have HB3 := Zd (btr HAX.out hb1)
      have HX3 := Zd (HBX.out.below hb1 HBX.out.lt)
      clear hk1 hk2 hb1 hb1' s0 s1 s2 s3 x1 k0 k1
      obtain ⟨xc, hxc⟩ : ∃ y, y = h.chans.getD ix Chn.none := ⟨_, rfl⟩
      have HXC := Zd hxc
      have HWH := Zd (HK.out _ HB3.out)
      have HCR := Zd HWH.out.own.cr
      obtain ⟨gc, hCA, hgc1, hgc2⟩ := own_some HCR.out (by have := HJ.out; omega)
      have HCA := Zd hCA
      have HCR2 := Zd (show w3.ownsRow base 124 5 (.slice (some ⟨gc, 0, none⟩) h.chans.length h.cc) h.chans.length (rows h.chans) by rw [<- HCA.out]; exact HCR.out)
      obtain ⟨c0, c1, c2, c3, c4⟩ := chn_cells (k := ix) (x := xc) (own_cellAt HCR2.out) HJ.out HXC.out.symm
      simp only [Nat.zero_add] at c0 c1 c2 c3 c4
      obtain ⟨s0, s1, s2, s3⟩ := HWH.out.hal
      rw [HCA.out] at s1
      have x0 := HX3.out.cell (i := 0) rfl
      have x1 := HX3.out.cell (i := 1) rfl
      have p0 : (0 : Int) <= (ix : Int) := by omega
      have p1 : (ix : Int) < (h.chans.length : Int) := by have := HJ.out; omega
      have k0 : g < w3.heap.size := HWH.out.lt
      have k1 : wr.heap.size < w3.heap.size := HX3.out.lt
      have k2 : gc < w3.heap.size := by have := hgc2; omega
      have HRY := Zd (fun W (hb : Below w1.heap.size w1 W) => cReady_any xc kh h.WA h.waits.length h.wc h.waits kd W ((HK.out W hb).own.at_ HF.out).wr (HF.out.cb xc (by rw [HXC.out]; exact mem_getD HJ.out)))
      have HRV : Hid (readyS xc.p kh (h.waits.map Wtr.p) kd = readyS (h.p.chans.getD (findP kh) ChP.none) kh h.p.waits kd) := Zd (by rw [HI.out, HXC.out, <- chP_getD]; rfl)
      rw [<- HRV.out] at HPK
      generalize readyS xc.p kh (h.waits.map Wtr.p) kd = rd at *
      clear hxc hCA hgc1 hgc2
      unfold chnV at HRY
      go_upto_region 8 with fail
      go_region_held3 (fun w' => w'.cell? ⟨g, 1, none⟩ = some (.slice (some ⟨gc, 0, none⟩) h.chans.length h.cc) /\ w'.cell? ⟨g, 2, none⟩ = some (.slice h.WA h.waits.length h.wc) /\ w'.cell? ⟨wr.heap.size, 0, none⟩ = some (.int .i64 kd) /\ w'.cell? ⟨wr.heap.size, 1, none⟩ = some (.int .i64 kh) /\ w'.cell? ⟨gc, ix * 5, none⟩ = some (.int .i64 xc.gen) /\ w'.cell? ⟨gc, ix * 5 + 1, none⟩ = some (.int .i64 xc.cap) /\ w'.cell? ⟨gc, ix * 5 + 2, none⟩ = some (.bool xc.used) /\ w'.cell? ⟨gc, ix * 5 + 3, none⟩ = some (.bool xc.closed) /\ w'.cell? ⟨gc, ix * 5 + 4, none⟩ = some (.slice xc.A xc.buf.length xc.c)) (first | go_keep | (simp only [hk1, hk2, hk3]; go_keep)) (first
       | (go_at_call 197
          refine (HRY.out _ ?_).mono ?_
          . first | exact HB3.out | exact HB3.out.drew
          rintro er w4 ⟨rfl, hb2'⟩
          have hb2 : Below w3.heap.size w3 w4 := ⟨hb2'.os, hb2'.tape, hb2'.output, hb2'.size, hb2'.block⟩
          have hk1 := fun o => hb2.cell (p := ⟨g, o, none⟩) k0
          have hk2 := fun o => hb2.cell (p := ⟨wr.heap.size, o, none⟩) k1
          have hk3 := fun o => hb2.cell (p := ⟨gc, o, none⟩) k2))
      have HB4 := Zd (btr HB3.out hb2)
      have HX4 := Zd (HX3.out.below hb2 HX3.out.lt)
      clear hk1 hk2 hk3 hb2 hb2' s0 s1 s2 s3 x0 x1 c0 c1 c2 c3 c4 k0 k1 k2 HRY HRV HCR HCR2 HWH HB3 HX3
      cases rd
      . have HPN : Hid (pickK h.p cs 0 = pickK h.p (cs.drop (k + 1)) (k + 1)) := Zd (by rw [HPK.out]; exact if_neg (by simp))
        clear HPK
        go_wp2_with fail
        go_roundg (m - (k + 1))
        case measure => rw [HG.out]; omega
        case rel => exact ⟨k + 1, by omega, rfl, by go_num, HPN.out, HB4.out⟩
      . have HRO : Hid (R = oneS h.p k ⟨kd, kh, kv⟩) := Zd (by rw [HR1.out, HPK.out, if_pos rfl])
        have HZ4 := Zd (HZ1.out.below HB4.out HZ1.out.lt)
        have HS4 := Zd (HK.out _ HB4.out)
        have HON := Zd (hOne_any base g h c t n k ⟨kd, kh, kv⟩ w4 HS4.out HF.out HFX.out)
        have HBW := Zd (HB1.out.trans (HB4.out.mono HB1.out.size))
        obtain ⟨⟨rs, rc, re, rv⟩, hqr⟩ : ∃ r : Resr, r = (oneS h.p k ⟨kd, kh, kv⟩).2 := ⟨_, rfl⟩
        rw [<- hqr] at HON
        have HQR := Zd hqr
        have hdn : ∀ j, Value.ownBlock (.slice h.DA h.done.length h.dc) = some j -> j < w.heap.size := fun j hj => own_in HO.out.own.dr j hj
        have HDN := Zd hdn
        have HNB := Zd (show ¬ HalBlk h (w.heap.size + 1) from by
         rintro (h1 | h1)
         . have := own_in HO.out.own.cr _ h1; omega
         . have := HDN.out _ h1; omega)
        clear hqr hdn HPK HR1
        unfold cseV at HON
        have x0 := HX4.out.cell (i := 0) rfl
        have x1 := HX4.out.cell (i := 1) rfl
        have x2 := HX4.out.cell (i := 2) rfl
        go_wp2_with (go_at_call 198
                     refine HON.out.mono ?_
                     rintro er w5 ⟨h5, rfl, hp5, hs5, hb5, hk5, hr5⟩
                     have HP5 := Zd hp5
                     have HS5 := Zd hs5
                     have HB5 := Zd hb5
                     have HK5 := Zd hk5
                     have HR5 := Zd hr5
                     have HZ5 := Zd (hk5.blk HZ4.out (Ne.symm hg2) HNB.out)
                     clear hp5 hs5 hb5 hk5 hr5
                     have z0 := HZ5.out.cell (i := 0) rfl
                     have z0f := HZ5.out.frozen 0
                     have z1 := HZ5.out.cell (i := 1) rfl
                     have z1f := HZ5.out.frozen 1
                     have z2 := HZ5.out.cell (i := 2) rfl
                     have z2f := HZ5.out.frozen 2
                     have z3 := HZ5.out.cell (i := 3) rfl
                     have z3f := HZ5.out.frozen 3)
        refine bodyPost_ret (v := rsV ⟨rs, rc, re, rv⟩) (ret_cell (g := w.heap.size + 1) rfl rfl (rsl_load (r := ⟨rs, rc, re, rv⟩) (put4 HZ5.out))) rfl ?_
        rw [HRO.out, <- HQR.out]
        have hb8 := below4 (Below.refl w.heap.size w5) (g := w.heap.size + 1) (Nat.le_succ _) (i := 0) (j := 1) (k := 2) (l := 3) (u := .int .i64 rs) (v := .int .i64 rc) (x := .int .i64 re) (y := .int .i64 rv)
        have hfin := HS5.out.far4 (v0 := .int .i64 rs) (v1 := .int .i64 rc) (v2 := .int .i64 re) (v3 := .int .i64 rv) (N := w.heap.size) (fun j hj => HDN.out j (by rw [<- HR5.out.done]; exact hj)) HZ5.out (Nat.le_succ _)
        exact ⟨h5, rfl, HP5.out, hfin, ((HBW.out.mono (by omega : base <= w.heap.size)).trans HB5.out).trans (hb8.mono (by omega)), (((HKeeps.of HBW.out (Nat.le_refl _)).trans HBW.out.size HK5.out).set4 (.inr (.inr (Nat.le_succ _))) 0 1 2 3 _ _ _ _), HR5.out⟩
    . obtain rfl : k = m := by omega
      have HPN : Hid (pickK h.p cs 0 = none) := Zd (by rw [HPK.out]; have := HM.out; subst this; exact pick_end h.p cs _)
      have HR2 : Hid (R = if q.dflt = true then (h.p, rC 10) else if 4294967295 <= h.ticket then (h.p, rC 7) else if (putS (h.waits.map Wtr.p) t ⟨true, h.ticket, n, cs⟩).2 = false then (h.p, rC 13) else (⟨h.ticket + 1, h.chans.map Chn.p, (putS (h.waits.map Wtr.p) t ⟨true, h.ticket, n, cs⟩).1, h.done⟩, rC 14)) := Zd (by rw [HR1.out, HPN.out])
      have HBW := Zd (HB1.out.trans (HBR.out.mono HB1.out.size))
      have HZR := Zd (HZ1.out.below HBR.out HZ1.out.lt)
      have HQR := Zd (HQ1.out.below HBR.out HQ1.out.lt)
      have HSR := Zd (HK.out _ HBR.out)
      clear HPN HPK HR1
      have q3 := HQR.out.cell (i := 3) rfl
      have q4 := HQR.out.cell (i := 4) rfl
      rw [HQA.out] at q4
      obtain ⟨s0, s1, s2, s3⟩ := HSR.out.hal
      have s15 : wr.cell? ⟨g, 15, none⟩ = some (.int .i64 t) := HSR.out.box.cell (i := 15) rfl
      have s16 : wr.cell? ⟨g, 16, none⟩ = some (.int .i64 n) := HSR.out.box.cell (i := 16) rfl
      have k0 : g < wr.heap.size := HSR.out.lt
      have k1 : w.heap.size < wr.heap.size := HQR.out.lt
      have z0 := HZR.out.cell (i := 0) rfl
      have z0f := HZR.out.frozen 0
      have z1 := HZR.out.cell (i := 1) rfl
      have z1f := HZR.out.frozen 1
      have z2 := HZR.out.cell (i := 2) rfl
      have z2f := HZR.out.frozen 2
      have z3 := HZR.out.cell (i := 3) rfl
      have z3f := HZR.out.frozen 3
      cases hd : q.dflt
      case true =>
       rw [hd] at q3
       have HR : Hid (R = (h.p, rC 10)) := Zd (by rw [HR2.out, if_pos hd])
       clear HR2 hd s0 s1 s2 s3 s15 s16 q4
       go_wp2_with fail
       refine bodyPost_ret (v := rsV ⟨0, 0, 10, 0⟩) (ret_cell (g := w.heap.size + 1) rfl rfl (rsl_load (r := ⟨0, 0, 10, 0⟩) (put4 HZR.out))) rfl ?_
       rw [HR.out]
       have hb4 := below4 HBW.out (g := w.heap.size + 1) (by omega) (i := 0) (j := 1) (k := 2) (l := 3) (u := .int .i64 0) (v := .int .i64 0) (x := .int .i64 10) (y := .int .i64 0)
       exact ⟨h, rfl, rfl, HH.out _ hb4, hb4.mono (by omega), HKeeps.of hb4 (Nat.le_refl _), .refl h⟩
      case false =>
       rw [hd] at q3
       by_cases ht : 4294967295 <= h.ticket
       . have d1 : decide (h.ticket ≥ 4294967295) = true := decide_eq_true ht
         have d2 : decide (4294967295 <= h.ticket) = true := decide_eq_true ht
         have HR : Hid (R = (h.p, rC 7)) := Zd (by rw [HR2.out, if_neg (by rw [hd]; simp), if_pos ht])
         clear HR2 hd ht s1 s2 s3 s15 s16 q4
         go_wp2_with fail
         refine bodyPost_ret (v := rsV ⟨0, 0, 7, 0⟩) (ret_cell (g := w.heap.size + 1) rfl rfl (rsl_load (r := ⟨0, 0, 7, 0⟩) (put4 HZR.out))) rfl ?_
         rw [HR.out]
         have hb4 := below4 HBW.out (g := w.heap.size + 1) (by omega) (i := 0) (j := 1) (k := 2) (l := 3) (u := .int .i64 0) (v := .int .i64 0) (x := .int .i64 7) (y := .int .i64 0)
         exact ⟨h, rfl, rfl, HH.out _ hb4, hb4.mono (by omega), HKeeps.of hb4 (Nat.le_refl _), .refl h⟩
       . have d1 : decide (h.ticket ≥ 4294967295) = false := decide_eq_false ht
         have d2 : decide (4294967295 <= h.ticket) = false := decide_eq_false ht
         have HT1 := Zd (show h.ticket < 4294967295 by omega)
         have HR3 : Hid (R = if (putS (h.waits.map Wtr.p) t ⟨true, h.ticket, n, cs⟩).2 = false then (h.p, rC 13) else (⟨h.ticket + 1, h.chans.map Chn.p, (putS (h.waits.map Wtr.p) t ⟨true, h.ticket, n, cs⟩).1, h.done⟩, rC 14)) := Zd (by rw [HR2.out, if_neg (by rw [hd]; simp), if_neg ht])
         have HPU := Zd (fun W (hb : Below w1.heap.size w1 W) => (wPut_any h.WA h.waits.length h.wc h.waits t ⟨false, h.ticket, n, q.A, q.c, cs⟩ W ((HK.out W hb).own.at_ HF.out).wr (HRD.out W (btr HB1.out hb)) HL.out).mono (fun _ _ hr => hr.own))
         rw [HQA.out] at HPU
         unfold wtrV at HPU
         simp only at HPU
         rw [<- HM.out] at HPU
         have HPE : Hid (putS (h.waits.map Wtr.p) t (Wtr.p ⟨false, h.ticket, n, some ⟨bC, oC, none⟩, q.c, cs⟩) = putS (h.waits.map Wtr.p) t ⟨true, h.ticket, n, cs⟩) := Zd rfl
         rw [HPE.out] at HPU
         generalize putS (h.waits.map Wtr.p) t ⟨true, h.ticket, n, cs⟩ = pu at *
         clear HR2 hd ht HPE z0 z0f z1 z1f z2 z2f z3 z3f
         go_upto_region 15 with fail
         go_region_held3 (fun w' => w'.cell? ⟨g, 0, none⟩ = some (.int .i64 h.ticket) /\ w'.cell? ⟨g, 2, none⟩ = some (.slice h.WA h.waits.length h.wc) /\ w'.cell? ⟨g, 15, none⟩ = some (.int .i64 t) /\ w'.cell? ⟨g, 16, none⟩ = some (.int .i64 n) /\ w'.cell? ⟨w.heap.size, 4, none⟩ = some (.slice (some ⟨bC, oC, none⟩) k q.c)) (first | go_keep | (simp only [hk1, hk2]; go_keep)) (first
          | (go_at_call 199
             refine (HPU.out _ ?_).mono ?_
             . first | exact HBR.out | exact HBR.out.drew
             rintro er w6 ⟨A6, c6, l6, rfl, hm6, ho6, hb6'⟩
             have hb6 : Below wr.heap.size wr w6 := ⟨hb6'.os, hb6'.tape, hb6'.output, hb6'.size, hb6'.block⟩
             have hk1 := fun o => hb6.cell (p := ⟨g, o, none⟩) k0
             have hk2 := fun o => hb6.cell (p := ⟨w.heap.size, o, none⟩) k1))
         have HM6 := Zd hm6
         have HB6 := Zd (btr HBR.out hb6)
         have HBX := Zd (HB1.out.trans (HB6.out.mono HB1.out.size))
         have HZ6 := Zd (HZR.out.below hb6 HZR.out.lt)
         have HS6 := Zd (HSR.out.below hb6)
         have HO6 := Zd (ho6.lower (b := base) (show base <= wr.heap.size by omega))
         rename_i hh15
         clear hh15 hk1 hk2 hb6 hb6' hm6 ho6 s0 s1 s2 s3 s15 s16 q3 q4 k0 k1 d1 d2
         have hdn : ∀ j, Value.ownBlock (.slice h.DA h.done.length h.dc) = some j -> j < w.heap.size := fun j hj => own_in HO.out.own.dr j hj
         have HDN := Zd hdn
         clear hdn
         cases hpu : pu.2
         case false =>
          have HR : Hid (R = (h.p, rC 13)) := Zd (by rw [HR3.out, if_pos hpu])
          clear hpu HR3
          have z0 := HZ6.out.cell (i := 0) rfl
          have z0f := HZ6.out.frozen 0
          have z1 := HZ6.out.cell (i := 1) rfl
          have z1f := HZ6.out.frozen 1
          have z2 := HZ6.out.cell (i := 2) rfl
          have z2f := HZ6.out.frozen 2
          have z3 := HZ6.out.cell (i := 3) rfl
          have z3f := HZ6.out.frozen 3
          go_wp2_with fail
          refine bodyPost_ret (v := rsV ⟨0, 0, 13, 0⟩) (ret_cell (g := w.heap.size + 1) rfl rfl (rsl_load (r := ⟨0, 0, 13, 0⟩) (put4 HZ6.out))) rfl ?_
          rw [HR.out]
          have hb4 := below4 HBX.out (g := w.heap.size + 1) (by omega) (i := 0) (j := 1) (k := 2) (l := 3) (u := .int .i64 0) (v := .int .i64 0) (x := .int .i64 13) (y := .int .i64 0)
          exact ⟨h, rfl, rfl, HH.out _ hb4, hb4.mono (by omega), HKeeps.of hb4 (Nat.le_refl _), .refl h⟩
         case true =>
          have HR : Hid (R = (⟨h.ticket + 1, h.chans.map Chn.p, pu.1, h.done⟩, rC 14)) := Zd (by rw [HR3.out, if_neg (by rw [hpu]; simp)])
          clear hpu HR3
          have HS7 := Zd (HS6.out.setWaits HO6.out)
          have HS8 := Zd (HS7.out.1.setTicket (h.ticket + 1))
          have HZ8 : Hid (Blk ((w6.setCell ⟨g, 2, none⟩ (.slice A6 l6.length c6)).setCell ⟨g, 0, none⟩ (.int .i64 (h.ticket + 1))) (w.heap.size + 1) 42 [.int .i64 0, .int .i64 0, .int .i64 0, .int .i64 0]) := Zd ((HZ6.out.other (g' := g) (Ne.symm hg2) 2 _).other (g' := g) (Ne.symm hg2) 0 _)
          have hlg : g < w6.heap.size := HS6.out.lt
          have s0 := HS6.out.box.cell (i := 0) rfl
          have s0f := HS6.out.box.frozen 0
          have s2 := HS6.out.box.cell (i := 2) rfl
          have s2f := HS6.out.box.frozen 2
          have t1 := HT1.out
          go_upto_region 20 with fail
          have HQ8 : Hid (HKeeps g h w ((w6.setCell ⟨g, 2, none⟩ (.slice A6 l6.length c6)).setCell ⟨g, 0, none⟩ (.int .i64 (h.ticket + 1)))) := Zd (((HKeeps.of HBX.out (Nat.le_refl _)).set (.inl rfl) 2 _).set (.inl rfl) 0 _)
          have HB8 : Hid (Below base w ((w6.setCell ⟨g, 2, none⟩ (.slice A6 l6.length c6)).setCell ⟨g, 0, none⟩ (.int .i64 (h.ticket + 1)))) := Zd ((HBX.out.mono (by omega : base <= w.heap.size)).trans (HS7.out.2.trans HS8.out.2))
          have HH8 : Hid (HSt base g ((w6.setCell ⟨g, 2, none⟩ (.slice A6 l6.length c6)).setCell ⟨g, 0, none⟩ (.int .i64 (h.ticket + 1))) _ c t n) := Zd HS8.out.1
          clear s0 s0f s2 s2f hlg HS7 HS8 t1
          generalize ((w6.setCell ⟨g, 2, none⟩ (.slice A6 l6.length c6)).setCell ⟨g, 0, none⟩ (.int .i64 (h.ticket + 1))) = W9 at *
          have z0 := HZ8.out.cell (i := 0) rfl
          have z0f := HZ8.out.frozen 0
          have z1 := HZ8.out.cell (i := 1) rfl
          have z1f := HZ8.out.frozen 1
          have z2 := HZ8.out.cell (i := 2) rfl
          have z2f := HZ8.out.frozen 2
          have z3 := HZ8.out.cell (i := 3) rfl
          have z3f := HZ8.out.frozen 3
          go_wp2_with fail
          refine bodyPost_ret (v := rsV ⟨0, 0, 14, 0⟩) (ret_cell (g := w.heap.size + 1) rfl rfl (rsl_load (r := ⟨0, 0, 14, 0⟩) (put4 HZ8.out))) rfl ?_
          rw [HR.out]
          have hb8 := below4 (Below.refl w.heap.size W9) (g := w.heap.size + 1) (Nat.le_succ _) (i := 0) (j := 1) (k := 2) (l := 3) (u := .int .i64 0) (v := .int .i64 0) (x := .int .i64 14) (y := .int .i64 0)
          have hfin := HH8.out.far4 (v0 := .int .i64 0) (v1 := .int .i64 0) (v2 := .int .i64 14) (v3 := .int .i64 0) (N := w.heap.size) (fun j hj => HDN.out j hj) HZ8.out (Nat.le_succ _)
          refine ⟨_, rfl, ?_, hfin, HB8.out.trans (hb8.mono (by omega)), HQ8.out.set4 (.inr (.inr (Nat.le_succ _))) 0 1 2 3 _ _ _ _, ⟨rfl, rfl, rfl, rfl, rfl, rfl⟩⟩
          show (⟨_, _, l6.map Wtr.p, _⟩ : HallP) = _
          rw [HM6.out]
 . have HR : Hid (R = (h.p, rC z)) := Zd (by rw [<- HR0.out]; unfold chooseS; rw [if_pos (show casesS h.p.chans (q.p cs).cs ≠ 0 from by rw [show casesS h.p.chans (q.p cs).cs = z from hcz]; exact h0)]; rw [show casesS h.p.chans (q.p cs).cs = z from hcz])
   have d0 : (z == 0) = false := by simp [h0]
   have d0' : (z != 0) = true := by simp [h0]
   have z0 := HZ1.out.cell (i := 0) rfl
   have z0f := HZ1.out.frozen 0
   have z1 := HZ1.out.cell (i := 1) rfl
   have z1f := HZ1.out.frozen 1
   have z2 := HZ1.out.cell (i := 2) rfl
   have z2f := HZ1.out.frozen 2
   have z3 := HZ1.out.cell (i := 3) rfl
   have z3f := HZ1.out.frozen 3
   go_wp2_with fail
   refine bodyPost_ret (v := rsV ⟨0, 0, z, 0⟩) (ret_cell (g := w.heap.size + 1) rfl rfl (rsl_load (r := ⟨0, 0, z, 0⟩) (put4 HZ1.out))) rfl ?_
   rw [HR.out]
   have hb4 := below4 HB1.out (g := w.heap.size + 1) (by omega) (i := 0) (j := 1) (k := 2) (l := 3) (u := .int .i64 0) (v := .int .i64 0) (x := .int .i64 z) (y := .int .i64 0)
   exact ⟨h, rfl, rfl, HH.out _ hb4, hb4.mono (by omega), HKeeps.of hb4 (Nat.le_refl _), .refl h⟩
theorem hFree_any (base g : Nat) (h : Hal) (c : Cfg) (t n handle : Int) (w : World) (H : HSt base g w h c t n) (hf : HalFew h) :
  Calls Tryz.prog 172 #[.pointer (some ⟨g, 0, none⟩), .int .i64 handle] w (RetStK base g h c t n (freeS h.p handle).1 (freeS h.p handle).2 w) := by
 have HZ := Zd (Blk.new w 42 [.int .i64 0, .int .i64 0, .int .i64 0, .int .i64 0])
 have HA := Zd ((Below.refl w.heap.size w).alloc (Nat.le_refl _) (.cells #[.int .i64 0, .int .i64 0, .int .i64 0, .int .i64 0] 42))
 have HH := Zd (fun W (hb : Below w.heap.size w W) => H.below hb)
 have HF := Zd hf
 have HO := Zd H
 have HFI := Zd (fun W (hb : Below w.heap.size w W) => hFind_any h handle W (H.below hb |>.own.cr |> own_rd) hf.cf)
 have hgl := H.lt
 have hnw := H.new
 generalize hR : freeS h.p handle = R at *
 have HR0 := Zd hR
 clear H hf hR
 have hg1 : g ≠ w.heap.size := Nat.ne_of_lt hgl
 obtain ⟨s0, s1, s2, s3⟩ := (HH.out _ HA.out).hal
 have z0 := HZ.out.cell (i := 0) rfl
 have z0f := HZ.out.frozen 0
 have z1 := HZ.out.cell (i := 1) rfl
 have z1f := HZ.out.frozen 1
 have z2 := HZ.out.cell (i := 2) rfl
 have z2f := HZ.out.frozen 2
 have z3 := HZ.out.cell (i := 3) rfl
 have z3f := HZ.out.frozen 3
 unfold halV at HFI
 go_enter Tryz.func172, Tryz.ntmps172
 go_upto_region 1 with fail
 generalize w.alloc (.cells #[.int .i64 0, .int .i64 0, .int .i64 0, .int .i64 0] 42) = W0 at *
 go_upto_region 2 with (go_at_call 194
                        refine (HFI.out _ HA.out).mono ?_
                        rintro er w1 ⟨rfl, hb1⟩
                        have HB1 := Zd (btr HA.out hb1)
                        have HZ1 := Zd (HZ.out.below hb1 HZ.out.lt)
                        have HS1 := Zd (HH.out _ HB1.out)
                        have HL1 := Zd (show w.heap.size < w1.heap.size by have := HZ.out.lt; have := hb1.size; omega)
                        clear hb1 s0 s1 s2 s3 z0 z0f z1 z1f z2 z2f z3 z3f)
 cases hfb : findB (h.chans.map Chn.p) handle
 . have HR : Hid (R = (h.p, rC 8)) := Zd (by rw [<- HR0.out]; unfold freeS; rw [if_pos (show findB h.p.chans handle = false from hfb)])
   clear HR0
   generalize findI (h.chans.map Chn.p) handle = fi at *
   have z0 := HZ1.out.cell (i := 0) rfl
   have z0f := HZ1.out.frozen 0
   have z1 := HZ1.out.cell (i := 1) rfl
   have z1f := HZ1.out.frozen 1
   have z2 := HZ1.out.cell (i := 2) rfl
   have z2f := HZ1.out.frozen 2
   have z3 := HZ1.out.cell (i := 3) rfl
   have z3f := HZ1.out.frozen 3
   go_wp2_with fail
   refine bodyPost_ret (v := rsV ⟨0, 0, 8, 0⟩) (ret_cell (g := w.heap.size) rfl rfl (rsl_load (r := ⟨0, 0, 8, 0⟩) (put4 HZ1.out))) rfl ?_
   rw [HR.out]
   have hb4 := below4 HB1.out (g := w.heap.size) (Nat.le_refl _) (i := 0) (j := 1) (k := 2) (l := 3) (u := .int .i64 0) (v := .int .i64 0) (x := .int .i64 8) (y := .int .i64 0)
   exact ⟨h, rfl, rfl, HH.out _ hb4, hb4.mono (by omega), HKeeps.of hb4 (Nat.le_refl _), .refl h⟩
 obtain ⟨k, hk1, hk2, hk3, hk4, hu5, hu6⟩ := find_yes hfb
 clear hu5 hu6
 have HRE : Hid (R = if idleS (h.chans.getD k Chn.none).p handle (h.waits.map Wtr.p) = false then (h.p, rC 13) else (⟨h.ticket, (h.chans.map Chn.p).set k ⟨(h.chans.getD k Chn.none).gen, 0, false, false, []⟩, h.waits.map Wtr.p, h.done⟩, rC 0)) := Zd (by
  have e1 : (h.p.chans.getD k ChP.none) = (h.chans.getD k Chn.none).p := chP_getD h.chans k
  rw [<- HR0.out]
  unfold freeS
  rw [if_neg (by rw [show findB h.p.chans handle = true from hfb]; simp), hk2, e1]
  rfl)
 have HXA := Zd (fun W (hb : Below w.heap.size w W) => ((HH.out W hb).own.at_ HF.out).cb (h.chans.getD k Chn.none) (mem_getD hk3))
 have HID := Zd (fun W (hb : Below w.heap.size w W) => cIdle_any (h.chans.getD k Chn.none) handle h.WA h.waits.length h.wc h.waits W ((HH.out W hb).own.at_ HF.out).wr (HXA.out W hb).few)
 rw [hk1]
 have HC := Zd HS1.out.own.cr
 obtain ⟨gc, hCA, hgc1, hgc2⟩ := own_some HC.out (by omega)
 rw [hCA] at HC
 obtain ⟨c0, c1, c2, c3, c4⟩ := chn_cells (k := k) (x := h.chans.getD k Chn.none) (own_cellAt HC.out) hk3 rfl
 simp only [Nat.zero_add] at c0 c1 c2 c3 c4
 obtain ⟨s0, s1, s2, s3⟩ := HS1.out.hal
 have HCA := Zd hCA
 rw [hCA] at s1
 have u0 : (0 : Int) <= (k : Int) := by omega
 have u1 : (k : Int) < (h.chans.length : Int) := by omega
 have gl1 : g < w1.heap.size := HS1.out.lt
 have HK3 := Zd hk3
 clear hCA hk1 hk2 hfb hk3 hk4 HR0 HXA
 generalize hx : h.chans.getD k Chn.none = x at *
 have HX := Zd hx
 clear hx
 unfold chnV at HID
 generalize idleS x.p handle (h.waits.map Wtr.p) = idl at *
 go_upto_region 4 with fail
 go_region_held3 (fun w' => w'.cell? ⟨g, 1, none⟩ = some (.slice (some ⟨gc, 0, none⟩) h.chans.length h.cc) /\ w'.cell? ⟨g, 2, none⟩ = some (.slice h.WA h.waits.length h.wc) /\ w'.cell? ⟨gc, k * 5, none⟩ = some (.int .i64 x.gen) /\ w'.cell? ⟨gc, k * 5 + 1, none⟩ = some (.int .i64 x.cap) /\ w'.cell? ⟨gc, k * 5 + 2, none⟩ = some (.bool x.used) /\ w'.cell? ⟨gc, k * 5 + 3, none⟩ = some (.bool x.closed) /\ w'.cell? ⟨gc, k * 5 + 4, none⟩ = some (.slice x.A x.buf.length x.c)) (first | go_keep | (simp only [hk1, hk2]; go_keep)) (first
  | (go_at_call 195
     refine (HID.out _ ?_).mono ?_
     . first | exact HB1.out | exact HB1.out.drew
     rintro er w2 ⟨rfl, hb2'⟩
     have hb2 : Below w1.heap.size w1 w2 := ⟨hb2'.os, hb2'.tape, hb2'.output, hb2'.size, hb2'.block⟩
     have hk1 := fun o => hb2.cell (p := ⟨g, o, none⟩) gl1
     have hk2 := fun o => hb2.cell (p := ⟨gc, o, none⟩) hgc2))
 have HB2 := Zd (btr HB1.out hb2)
 have HZ2 := Zd (HZ1.out.below hb2 HZ1.out.lt)
 have HS2 := Zd (HH.out _ HB2.out)
 have HC2 := Zd (own_below HC.out hb2)
 clear hk1 hk2 hb2 hb2' s0 s1 s2 s3 c0 c1 c2 c3 c4
 have z0 := HZ2.out.cell (i := 0) rfl
 have z0f := HZ2.out.frozen 0
 have z1 := HZ2.out.cell (i := 1) rfl
 have z1f := HZ2.out.frozen 1
 have z2 := HZ2.out.cell (i := 2) rfl
 have z2f := HZ2.out.frozen 2
 have z3 := HZ2.out.cell (i := 3) rfl
 have z3f := HZ2.out.frozen 3
 cases idl
 . have HR : Hid (R = (h.p, rC 13)) := Zd (by rw [HRE.out]; rfl)
   clear HRE
   go_wp2_with fail
   refine bodyPost_ret (v := rsV ⟨0, 0, 13, 0⟩) (ret_cell (g := w.heap.size) rfl rfl (rsl_load (r := ⟨0, 0, 13, 0⟩) (put4 HZ2.out))) rfl ?_
   rw [HR.out]
   have hb4 := below4 HB2.out (g := w.heap.size) (Nat.le_refl _) (i := 0) (j := 1) (k := 2) (l := 3) (u := .int .i64 0) (v := .int .i64 0) (x := .int .i64 13) (y := .int .i64 0)
   exact ⟨h, rfl, rfl, HH.out _ hb4, hb4.mono (by omega), HKeeps.of hb4 (Nat.le_refl _), .refl h⟩
 . have HR : Hid (R = (⟨h.ticket, (h.chans.map Chn.p).set k ⟨x.gen, 0, false, false, []⟩, h.waits.map Wtr.p, h.done⟩, rC 0)) := Zd (by rw [HRE.out]; rfl)
   clear HRE z0 z0f z1 z1f z2 z2f z3 z3f
   obtain ⟨s0, s1, s2, s3⟩ := HS2.out.hal
   rw [HCA.out] at s1
   obtain ⟨c0, c1, c2, c3, c4⟩ := chn_cells (k := k) (x := x) (own_cellAt HC2.out) HK3.out HX.out
   simp only [Nat.zero_add] at c0 c1 c2 c3 c4
   have cf := own_free HC2.out
   have n1 : g ≠ gc := by have h1 := own_blk_neL HC2.out HS2.out.box (by decide); simpa [Value.ownBlock] using h1
   have n1' := n1.symm
   go_upto_region 6 with fail
   go_region
   have HXC := Zd (HS2.out.setChan HCA.out HK3.out ⟨x.gen, 0, false, false, none, 0, []⟩ (own_nil _ _ _ _))
   have HS6 : Hid (HSt base g (((((w2.setCell ⟨gc, k * 5, none⟩ (.int .i64 x.gen)).setCell ⟨gc, k * 5 + 1, none⟩ (.int .i64 0)).setCell ⟨gc, k * 5 + 2, none⟩ (.bool false)).setCell ⟨gc, k * 5 + 3, none⟩ (.bool false)).setCell ⟨gc, k * 5 + 4, none⟩ (.slice none 0 0)).drew ⟨h.ticket, h.CA, h.cc, h.chans.set k ⟨x.gen, 0, false, false, none, 0, []⟩, h.WA, h.wc, h.waits, h.DA, h.dc, h.done⟩ c t n) := Zd ((show HSt base g (((((w2.setCell ⟨gc, k * 5, none⟩ (.int .i64 x.gen)).setCell ⟨gc, k * 5 + 1, none⟩ (.int .i64 0)).setCell ⟨gc, k * 5 + 2, none⟩ (.bool false)).setCell ⟨gc, k * 5 + 3, none⟩ (.bool false)).setCell ⟨gc, k * 5 + 4, none⟩ (.slice none 0 0)) _ c t n from HXC.out.1).below (Below.refl _ _).drew)
   have HB6 : Hid (Below base w2 (((((w2.setCell ⟨gc, k * 5, none⟩ (.int .i64 x.gen)).setCell ⟨gc, k * 5 + 1, none⟩ (.int .i64 0)).setCell ⟨gc, k * 5 + 2, none⟩ (.bool false)).setCell ⟨gc, k * 5 + 3, none⟩ (.bool false)).setCell ⟨gc, k * 5 + 4, none⟩ (.slice none 0 0)).drew) := Zd ((show Below base w2 (((((w2.setCell ⟨gc, k * 5, none⟩ (.int .i64 x.gen)).setCell ⟨gc, k * 5 + 1, none⟩ (.int .i64 0)).setCell ⟨gc, k * 5 + 2, none⟩ (.bool false)).setCell ⟨gc, k * 5 + 3, none⟩ (.bool false)).setCell ⟨gc, k * 5 + 4, none⟩ (.slice none 0 0)) from HXC.out.2).drew)
   have HK6 : Hid (HKeeps g h w (((((w2.setCell ⟨gc, k * 5, none⟩ (.int .i64 x.gen)).setCell ⟨gc, k * 5 + 1, none⟩ (.int .i64 0)).setCell ⟨gc, k * 5 + 2, none⟩ (.bool false)).setCell ⟨gc, k * 5 + 3, none⟩ (.bool false)).setCell ⟨gc, k * 5 + 4, none⟩ (.slice none 0 0)).drew) := Zd (((HKeeps.of HB2.out (Nat.le_refl _)).set5 (.inr (.inl (.inl (show Value.ownBlock (.slice h.CA h.chans.length h.cc) = some gc by rw [HCA.out]; rfl)))) _ _ _ _ _ _ _ _ _ _).drew)
   have HZ6 : Hid (Blk (((((w2.setCell ⟨gc, k * 5, none⟩ (.int .i64 x.gen)).setCell ⟨gc, k * 5 + 1, none⟩ (.int .i64 0)).setCell ⟨gc, k * 5 + 2, none⟩ (.bool false)).setCell ⟨gc, k * 5 + 3, none⟩ (.bool false)).setCell ⟨gc, k * 5 + 4, none⟩ (.slice none 0 0)).drew w.heap.size 42 [.int .i64 0, .int .i64 0, .int .i64 0, .int .i64 0]) := Zd (Blk.drew (show Blk (((((w2.setCell ⟨gc, k * 5, none⟩ (.int .i64 x.gen)).setCell ⟨gc, k * 5 + 1, none⟩ (.int .i64 0)).setCell ⟨gc, k * 5 + 2, none⟩ (.bool false)).setCell ⟨gc, k * 5 + 3, none⟩ (.bool false)).setCell ⟨gc, k * 5 + 4, none⟩ (.slice none 0 0)) w.heap.size _ _ from blk_sets HZ2.out HC2.out (by decide) (k * 5) (Chn.cells ⟨x.gen, 0, false, false, none, 0, []⟩)))
   clear s0 s1 s2 s3 c0 c1 c2 c3 c4 cf n1 n1' HXC
   generalize (((((w2.setCell ⟨gc, k * 5, none⟩ (.int .i64 x.gen)).setCell ⟨gc, k * 5 + 1, none⟩ (.int .i64 0)).setCell ⟨gc, k * 5 + 2, none⟩ (.bool false)).setCell ⟨gc, k * 5 + 3, none⟩ (.bool false)).setCell ⟨gc, k * 5 + 4, none⟩ (.slice none 0 0)).drew = W6 at *
   have z0 := HZ6.out.cell (i := 0) rfl
   have z0f := HZ6.out.frozen 0
   have z1 := HZ6.out.cell (i := 1) rfl
   have z1f := HZ6.out.frozen 1
   have z2 := HZ6.out.cell (i := 2) rfl
   have z2f := HZ6.out.frozen 2
   have z3 := HZ6.out.cell (i := 3) rfl
   have z3f := HZ6.out.frozen 3
   go_wp2_with fail
   refine bodyPost_ret (v := rsV ⟨0, 0, 0, 0⟩) (ret_cell (g := w.heap.size) rfl rfl (rsl_load (r := ⟨0, 0, 0, 0⟩) (put4 HZ6.out))) rfl ?_
   rw [HR.out]
   have hb8 := below4 (Below.refl w.heap.size W6) (g := w.heap.size) (Nat.le_refl _) (i := 0) (j := 1) (k := 2) (l := 3) (u := .int .i64 0) (v := .int .i64 0) (x := .int .i64 0) (y := .int .i64 0)
   have hfin := HS6.out.far4 (v0 := .int .i64 0) (v1 := .int .i64 0) (v2 := .int .i64 0) (v3 := .int .i64 0) (N := w.heap.size) (fun k hk => own_in HO.out.own.dr k hk) HZ6.out (Nat.le_refl _)
   refine ⟨_, rfl, ?_, hfin, ((HB2.out.mono (by omega : base <= w.heap.size)).trans HB6.out).trans (hb8.mono (by omega)), HK6.out.set4 (.inr (.inr (Nat.le_refl _))) 0 1 2 3 _ _ _ _, ⟨rfl, rfl, by simp, rfl, rfl, rfl⟩⟩
   show (⟨_, (h.chans.set k ⟨x.gen, 0, false, false, none, 0, []⟩).map Chn.p, _, _⟩ : HallP) = _
   rw [List.map_set]
   rfl
theorem room_drop (gens : Int) : ∀ (l : List ChP) (k j : Nat), k < l.length -> roomK gens (l.drop k) (j + k) = if (l.getD k ChP.none).used = true then roomK gens (l.drop (k + 1)) (j + (k + 1)) else if min gens 4095 <= (l.getD k ChP.none).gen then roomK gens (l.drop (k + 1)) (j + (k + 1)) else some (j + k) := by
 intro l k j hk
 rw [List.drop_eq_getElem_cons hk]
 have e : l.getD k ChP.none = l[k] := by simp [List.getD, hk]
 rw [e]
 rfl
theorem spent_take (gens : Int) (l : List ChP) (k : Nat) (hk : k < l.length) : spentB gens (l.take (k + 1)) = (spentB gens (l.take k) || (!(l.getD k ChP.none).used && decide (min gens 4095 <= (l.getD k ChP.none).gen))) := by
 have e : l.getD k ChP.none = l[k] := by simp [List.getD, hk]
 unfold spentB
 rw [List.take_succ_eq_append_getElem hk, List.any_append, e]
 simp
theorem hOpen_any (base g : Nat) (h : Hal) (c : Cfg) (t n capacity : Int) (w : World) (H : HSt base g w h c t n) (h8 : h.chans.length <= 8) (hge : ∀ x ∈ h.chans, 0 <= x.gen) :
  Calls Tryz.prog 171 #[.pointer (some ⟨g, 0, none⟩), .int .i64 capacity] w (RetStK base g h c t n (openS c.gens c.cap h.p capacity).1 (openS c.gens c.cap h.p capacity).2 w) := by
 have HZ := Zd (Blk.new w 42 [.int .i64 0, .int .i64 0, .int .i64 0, .int .i64 0])
 have HA := Zd ((Below.refl w.heap.size w).alloc (Nat.le_refl _) (.cells #[.int .i64 0, .int .i64 0, .int .i64 0, .int .i64 0] 42))
 have HH := Zd (fun W (hb : Below w.heap.size w W) => H.below hb)
 have HO := Zd H
 have H8 := Zd h8
 have HGE := Zd hge
 have hgl := H.lt
 have hnw := H.new
 generalize hR : openS c.gens c.cap h.p capacity = R at *
 have HR0 := Zd hR
 clear H hR h8 hge
 have hg1 : g ≠ w.heap.size := Nat.ne_of_lt hgl
 obtain ⟨s0, s1, s2, s3⟩ := (HH.out _ HA.out).hal
 have s7 : (w.alloc (.cells #[.int .i64 0, .int .i64 0, .int .i64 0, .int .i64 0] 42)).cell? ⟨g, 7, none⟩ = some (.int .i64 c.cap) := (HH.out _ HA.out).box.cell (i := 7) rfl
 have z0 := HZ.out.cell (i := 0) rfl
 have z0f := HZ.out.frozen 0
 have z1 := HZ.out.cell (i := 1) rfl
 have z1f := HZ.out.frozen 1
 have z2 := HZ.out.cell (i := 2) rfl
 have z2f := HZ.out.frozen 2
 have z3 := HZ.out.cell (i := 3) rfl
 have z3f := HZ.out.frozen 3
 by_cases a1 : capacity < 0
 . have HR : Hid (R = (h.p, rC 1)) := Zd (by rw [<- HR0.out]; unfold openS; rw [if_pos (.inl a1)])
   have d1 : decide (capacity < 0) = true := decide_eq_true a1
   clear HR0 a1
   go_enter Tryz.func171, Tryz.ntmps171
   go_upto_region 1 with fail
   generalize w.alloc (.cells #[.int .i64 0, .int .i64 0, .int .i64 0, .int .i64 0] 42) = W0 at *
   go_wp2_with fail
   refine bodyPost_ret (v := rsV ⟨0, 0, 1, 0⟩) (ret_cell (g := w.heap.size) rfl rfl (rsl_load (r := ⟨0, 0, 1, 0⟩) (put4 HZ.out))) rfl ?_
   rw [HR.out]
   have hb4 := below4 HA.out (g := w.heap.size) (Nat.le_refl _) (i := 0) (j := 1) (k := 2) (l := 3) (u := .int .i64 0) (v := .int .i64 0) (x := .int .i64 1) (y := .int .i64 0)
   exact ⟨h, rfl, rfl, HH.out _ hb4, hb4.mono (by omega), HKeeps.of hb4 (Nat.le_refl _), .refl h⟩
 have d1 : decide (capacity < 0) = false := decide_eq_false a1
 by_cases a2 : c.cap < capacity
 . have HR : Hid (R = (h.p, rC 1)) := Zd (by rw [<- HR0.out]; unfold openS; rw [if_pos (.inr a2)])
   have d2 : decide (c.cap < capacity) = true := decide_eq_true a2
   clear HR0 a1 a2
   go_enter Tryz.func171, Tryz.ntmps171
   go_upto_region 1 with fail
   generalize w.alloc (.cells #[.int .i64 0, .int .i64 0, .int .i64 0, .int .i64 0] 42) = W0 at *
   go_wp2_with fail
   refine bodyPost_ret (v := rsV ⟨0, 0, 1, 0⟩) (ret_cell (g := w.heap.size) rfl rfl (rsl_load (r := ⟨0, 0, 1, 0⟩) (put4 HZ.out))) rfl ?_
   rw [HR.out]
   have hb4 := below4 HA.out (g := w.heap.size) (Nat.le_refl _) (i := 0) (j := 1) (k := 2) (l := 3) (u := .int .i64 0) (v := .int .i64 0) (x := .int .i64 1) (y := .int .i64 0)
   exact ⟨h, rfl, rfl, HH.out _ hb4, hb4.mono (by omega), HKeeps.of hb4 (Nat.le_refl _), .refl h⟩
 have d2 : decide (c.cap < capacity) = false := decide_eq_false a2
 have HRR : Hid (R = match roomK c.gens (h.chans.map Chn.p) 0 with
  | some k => (⟨h.ticket, (h.chans.map Chn.p).set k ⟨((h.chans.map Chn.p).getD k ChP.none).gen + 1, capacity, true, false, []⟩, h.waits.map Wtr.p, h.done⟩, rV (handP k (((h.chans.map Chn.p).getD k ChP.none).gen + 1)))
  | .none => (h.p, rC (if spentB c.gens (h.chans.map Chn.p) = true then 7 else 6))) := Zd (by
    rw [<- HR0.out]
    unfold openS
    rw [if_neg (by rintro (hx | hx); exact a1 hx; exact a2 hx)]
    rfl)
 have HLN : Hid ((h.chans.map Chn.p).length = h.chans.length) := Zd (by rw [List.length_map])
 clear HR0 a1 a2
 have hnc := H8.out
 go_enter Tryz.func171, Tryz.ntmps171
 go_upto_region 1 with fail
 generalize w.alloc (.cells #[.int .i64 0, .int .i64 0, .int .i64 0, .int .i64 0] 42) = W0 at *
 go_wp2_with fail
 clear s0 s1 s2 s3 s7 z0 z0f z1 z1f z2 z2f z3 z3f
 generalize hca : h.CA = CA at *
 have HCA0 := Zd hca
 clear hca
 generalize hnn : h.chans.length = m at *
 have HNN := Zd hnn
 clear hnn
 go_loopg [5, 26] m (fun gg sp i wr => ∃ k : Nat, k <= m /\ gg = m - k /\ i = .int .i64 k /\ sp = .bool (spentB c.gens ((h.chans.map Chn.p).take k)) /\ roomK c.gens (h.chans.map Chn.p) 0 = roomK c.gens ((h.chans.map Chn.p).drop k) (0 + k) /\ Below W0.heap.size W0 wr)
 case atStart => exact ⟨0, Nat.zero_le _, rfl, rfl, rfl, rfl, Below.refl _ _⟩
 case round =>
  obtain ⟨k, hk, hg, rfl, rfl, hrm, hbr⟩ := hrel
  have HG := Zd hg
  have HRM := Zd hrm
  have HBR := Zd (btr HA.out hbr)
  have HBQ := Zd hbr
  have HZR := Zd (HZ.out.below hbr HZ.out.lt)
  have HSR := Zd (HH.out _ HBR.out)
  have HZL := HZR.out.lt
  clear hg hrm hbr
  by_cases hlt : k < m
  . have hcr := HSR.out.own.cr
    have hkc : k < h.chans.length := by rw [HNN.out]; exact hlt
    obtain ⟨gc, hCA, hgc1, hgc2⟩ := own_some hcr (by omega)
    rw [hCA] at hcr
    obtain ⟨c0, c1, c2, c3, c4⟩ := chn_cells (k := k) (x := h.chans.getD k Chn.none) (own_cellAt hcr) hkc rfl
    simp only [Nat.zero_add] at c0 c1 c2 c3 c4
    have HCA := Zd hCA
    have HKC := Zd hkc
    have HST := Zd (room_drop c.gens (h.chans.map Chn.p) k 0 (by rw [HLN.out, <- HNN.out]; exact hkc))
    have HSP := Zd (spent_take c.gens (h.chans.map Chn.p) k (by rw [HLN.out, <- HNN.out]; exact hkc))
    have HX0 := Zd (HGE.out (h.chans.getD k Chn.none) (mem_getD hkc))
    rw [chP_getD] at HST HSP
    have HCO := Zd (show Value.ownBlock (.slice h.CA h.chans.length h.cc) = some gc by rw [hCA]; rfl)
    have hCA2 : CA = some ⟨gc, 0, none⟩ := HCA0.out.symm.trans hCA
    subst hCA2
    have q0 : (0 : Int) <= (k : Int) := by omega
    have q1 : (k : Int) < (m : Int) := by omega
    clear hcr hCA hkc
    generalize hx : h.chans.getD k Chn.none = x at *
    have HX := Zd hx
    clear hx
    have HBX : Hid (Blk (wr.alloc (.cells #[.int .i64 x.gen, .int .i64 x.cap, .bool x.used, .bool x.closed, .slice x.A x.buf.length x.c] 124)) wr.heap.size 124 x.cells) := Zd (blk_new rfl)
    have HAX := Zd ((Below.refl wr.heap.size wr).alloc (Nat.le_refl _) (.cells #[.int .i64 x.gen, .int .i64 x.cap, .bool x.used, .bool x.closed, .slice x.A x.buf.length x.c] 124))
    have hgl2 := HSR.out.lt
    go_upto_region 7 with (fail)
    clear c0 c1 c2 c3 c4
    have HS1 := Zd (HSR.out.below HAX.out)
    have HB1 := Zd (HBR.out.trans (HAX.out.mono HBR.out.size))
    have HBQ1 := Zd (HBQ.out.trans (HAX.out.mono HBQ.out.size))
    have HZ1 := Zd (HZR.out.below HAX.out HZR.out.lt)
    have hng : g ≠ wr.heap.size := Nat.ne_of_lt hgl2
    have hwl : wr.heap.size < (wr.alloc (.cells #[.int .i64 x.gen, .int .i64 x.cap, .bool x.used, .bool x.closed, .slice x.A x.buf.length x.c] 124)).heap.size := HBX.out.lt
    generalize wr.alloc (.cells #[.int .i64 x.gen, .int .i64 x.cap, .bool x.used, .bool x.closed, .slice x.A x.buf.length x.c] 124) = W1 at *
    generalize wr.heap.size = gx at *
    have x0 := HBX.out.cell (i := 0) rfl
    have x2 := HBX.out.cell (i := 2) rfl
    have s13 : W1.cell? ⟨g, 13, none⟩ = some (.int .i64 c.gens) := HS1.out.box.cell (i := 13) rfl
    cases hus : x.used
    case true =>
     rw [hus] at x2
     have HST1 : Hid (roomK c.gens ((h.chans.map Chn.p).drop k) (0 + k) = roomK c.gens ((h.chans.map Chn.p).drop (k + 1)) (0 + (k + 1))) := Zd (by rw [HST.out]; exact if_pos (show x.p.used = true from hus))
     have HSP1 : Hid (spentB c.gens ((h.chans.map Chn.p).take (k + 1)) = spentB c.gens ((h.chans.map Chn.p).take k)) := Zd (by rw [HSP.out]; show (_ || (!x.used && _)) = _; rw [hus]; simp)
     clear hus HST HSP
     go_wp2_with fail
     go_roundg (m - (k + 1))
     case measure => rw [HG.out]; omega
     case rel => exact ⟨k + 1, by omega, rfl, by go_num, by rw [HSP1.out], HRM.out.trans HST1.out, HBQ1.out⟩
    case false =>
     rw [hus] at x2
     go_upto_region 8 with fail
     by_cases hgn : 4095 < c.gens
     . by_cases hcm : min c.gens 4095 <= x.gen
       . have hd : decide ((4095 : Int) <= x.gen) = true := decide_eq_true (by omega)
         have HST1 : Hid (roomK c.gens ((h.chans.map Chn.p).drop k) (0 + k) = roomK c.gens ((h.chans.map Chn.p).drop (k + 1)) (0 + (k + 1))) := Zd (by rw [HST.out, if_neg (show ¬ x.p.used = true by show ¬ x.used = true; rw [hus]; simp)]; exact if_pos hcm)
         have HSP1 : Hid (spentB c.gens ((h.chans.map Chn.p).take (k + 1)) = true) := Zd (by rw [HSP.out]; show (_ || (!x.used && decide (min c.gens 4095 <= x.gen))) = true; rw [hus, decide_eq_true hcm]; simp)
         clear hus HST HSP hcm
         go_region
         go_wp2_with fail
         go_roundg (m - (k + 1))
         case measure => rw [HG.out]; omega
         case rel => exact ⟨k + 1, by omega, rfl, by go_num, by rw [HSP1.out], HRM.out.trans HST1.out, by first | exact HBQ1.out | exact HBQ1.out.drew | exact Below.drewN' HBQ1.out _⟩
       . have hd : decide ((4095 : Int) <= x.gen) = false := decide_eq_false (by omega)
         have hx1 := HX0.out
         have hx2 : x.gen + 1 <= 4095 := by omega
         have HNW : Hid (R = (⟨h.ticket, (h.chans.map Chn.p).set k ⟨x.gen + 1, capacity, true, false, []⟩, h.waits.map Wtr.p, h.done⟩, rV (handP k (x.gen + 1)))) := Zd (by
          have e : roomK c.gens (h.chans.map Chn.p) 0 = some k := by
           rw [HRM.out, HST.out, if_neg (show ¬ x.p.used = true by show ¬ x.used = true; rw [hus]; simp), if_neg (show ¬ min c.gens 4095 <= x.p.gen from hcm), Nat.zero_add]
          rw [HRR.out, e]
          simp only
          rw [chP_getD, HX.out]
          rfl)
         have HHD := Zd (fun W => rfHandle_any (k : Int) (x.gen + 1) W (by omega) (by omega) (by omega) hx2)
         generalize handP (k : Int) (x.gen + 1) = hv at *
         clear hus HST HSP hcm HRR
         have HC1 := Zd HS1.out.own.cr
         rw [HCA.out] at HC1
         obtain ⟨c0, c1, c2, c3, c4⟩ := chn_cells (k := k) (x := x) (own_cellAt HC1.out) HKC.out HX.out
         simp only [Nat.zero_add] at c0 c1 c2 c3 c4
         have cf := own_free HC1.out
         obtain ⟨s0, s1, s2, s3⟩ := HS1.out.hal
         rw [HCA.out, HNN.out] at s1
         have n1 : g ≠ gc := by have h1 := own_blk_neL HC1.out HS1.out.box (by decide); simpa [Value.ownBlock] using h1
         have n1' := n1.symm
         have n2 : gx ≠ gc := by omega
         have n2' := n2.symm
         go_region
         go_upto_region 10 with fail
         go_region
         have HXC := Zd (HS1.out.setChan HCA.out HKC.out ⟨x.gen + 1, capacity, true, false, none, 0, []⟩ (own_nil _ _ _ _))
         have HS6 : Hid (HSt base g (((((W1.setCell ⟨gc, k * 5, none⟩ (.int .i64 (x.gen + 1))).setCell ⟨gc, k * 5 + 1, none⟩ (.int .i64 capacity)).setCell ⟨gc, k * 5 + 2, none⟩ (.bool true)).setCell ⟨gc, k * 5 + 3, none⟩ (.bool false)).setCell ⟨gc, k * 5 + 4, none⟩ (.slice none 0 0)).drew.drew ⟨h.ticket, h.CA, h.cc, h.chans.set k ⟨x.gen + 1, capacity, true, false, none, 0, []⟩, h.WA, h.wc, h.waits, h.DA, h.dc, h.done⟩ c t n) := Zd (((show HSt base g (((((W1.setCell ⟨gc, k * 5, none⟩ (.int .i64 (x.gen + 1))).setCell ⟨gc, k * 5 + 1, none⟩ (.int .i64 capacity)).setCell ⟨gc, k * 5 + 2, none⟩ (.bool true)).setCell ⟨gc, k * 5 + 3, none⟩ (.bool false)).setCell ⟨gc, k * 5 + 4, none⟩ (.slice none 0 0)) _ c t n from HXC.out.1).below (Below.refl _ _).drew).below (Below.refl _ _).drew)
         have HB6 : Hid (Below base W1 (((((W1.setCell ⟨gc, k * 5, none⟩ (.int .i64 (x.gen + 1))).setCell ⟨gc, k * 5 + 1, none⟩ (.int .i64 capacity)).setCell ⟨gc, k * 5 + 2, none⟩ (.bool true)).setCell ⟨gc, k * 5 + 3, none⟩ (.bool false)).setCell ⟨gc, k * 5 + 4, none⟩ (.slice none 0 0)).drew.drew) := Zd ((show Below base W1 (((((W1.setCell ⟨gc, k * 5, none⟩ (.int .i64 (x.gen + 1))).setCell ⟨gc, k * 5 + 1, none⟩ (.int .i64 capacity)).setCell ⟨gc, k * 5 + 2, none⟩ (.bool true)).setCell ⟨gc, k * 5 + 3, none⟩ (.bool false)).setCell ⟨gc, k * 5 + 4, none⟩ (.slice none 0 0)) from HXC.out.2).drew.drew)
         have HZ6 : Hid (Blk (((((W1.setCell ⟨gc, k * 5, none⟩ (.int .i64 (x.gen + 1))).setCell ⟨gc, k * 5 + 1, none⟩ (.int .i64 capacity)).setCell ⟨gc, k * 5 + 2, none⟩ (.bool true)).setCell ⟨gc, k * 5 + 3, none⟩ (.bool false)).setCell ⟨gc, k * 5 + 4, none⟩ (.slice none 0 0)).drew.drew w.heap.size 42 [.int .i64 0, .int .i64 0, .int .i64 0, .int .i64 0]) := Zd (Blk.drew (Blk.drew (show Blk (((((W1.setCell ⟨gc, k * 5, none⟩ (.int .i64 (x.gen + 1))).setCell ⟨gc, k * 5 + 1, none⟩ (.int .i64 capacity)).setCell ⟨gc, k * 5 + 2, none⟩ (.bool true)).setCell ⟨gc, k * 5 + 3, none⟩ (.bool false)).setCell ⟨gc, k * 5 + 4, none⟩ (.slice none 0 0)) w.heap.size _ _ from blk_sets HZ1.out HC1.out (by decide) (k * 5) (Chn.cells ⟨x.gen + 1, capacity, true, false, none, 0, []⟩))))
         have HT6 : Hid (Blk (((((W1.setCell ⟨gc, k * 5, none⟩ (.int .i64 (x.gen + 1))).setCell ⟨gc, k * 5 + 1, none⟩ (.int .i64 capacity)).setCell ⟨gc, k * 5 + 2, none⟩ (.bool true)).setCell ⟨gc, k * 5 + 3, none⟩ (.bool false)).setCell ⟨gc, k * 5 + 4, none⟩ (.slice none 0 0)).drew.drew gx 124 x.cells) := Zd (Blk.drew (Blk.drew (show Blk (((((W1.setCell ⟨gc, k * 5, none⟩ (.int .i64 (x.gen + 1))).setCell ⟨gc, k * 5 + 1, none⟩ (.int .i64 capacity)).setCell ⟨gc, k * 5 + 2, none⟩ (.bool true)).setCell ⟨gc, k * 5 + 3, none⟩ (.bool false)).setCell ⟨gc, k * 5 + 4, none⟩ (.slice none 0 0)) gx _ _ from HBX.out.sets n2 (k * 5) (Chn.cells ⟨x.gen + 1, capacity, true, false, none, 0, []⟩))))
         have HQ6 : Hid (HKeeps g h w (((((W1.setCell ⟨gc, k * 5, none⟩ (.int .i64 (x.gen + 1))).setCell ⟨gc, k * 5 + 1, none⟩ (.int .i64 capacity)).setCell ⟨gc, k * 5 + 2, none⟩ (.bool true)).setCell ⟨gc, k * 5 + 3, none⟩ (.bool false)).setCell ⟨gc, k * 5 + 4, none⟩ (.slice none 0 0)).drew.drew) := Zd (((HKeeps.of HB1.out (Nat.le_refl _)).set5 (.inr (.inl (.inl HCO.out))) _ _ _ _ _ _ _ _ _ _).drew.drew)
         clear s0 s1 s2 s3 c0 c1 c2 c3 c4 cf n1 n1' n2 n2' HXC x0 x2 s13
         generalize (((((W1.setCell ⟨gc, k * 5, none⟩ (.int .i64 (x.gen + 1))).setCell ⟨gc, k * 5 + 1, none⟩ (.int .i64 capacity)).setCell ⟨gc, k * 5 + 2, none⟩ (.bool true)).setCell ⟨gc, k * 5 + 3, none⟩ (.bool false)).setCell ⟨gc, k * 5 + 4, none⟩ (.slice none 0 0)).drew.drew = W6 at *
         have x0 := HT6.out.cell (i := 0) rfl
         have z0 := HZ6.out.cell (i := 0) rfl
         have z0f := HZ6.out.frozen 0
         have z1 := HZ6.out.cell (i := 1) rfl
         have z1f := HZ6.out.frozen 1
         have z2 := HZ6.out.cell (i := 2) rfl
         have z2f := HZ6.out.frozen 2
         have z3 := HZ6.out.cell (i := 3) rfl
         have z3f := HZ6.out.frozen 3
         go_wp2_with (go_at_call 193
                      refine (HHD.out _).mono ?_
                      rintro er w7 ⟨rfl, rfl⟩)
         refine bodyPost_ret (v := rsV ⟨0, 0, 0, hv⟩) (ret_cell (g := w.heap.size) rfl rfl (rsl_load (r := ⟨0, 0, 0, hv⟩) (put4 HZ6.out))) rfl ?_
         rw [HNW.out]
         have hb8 := below4 (Below.refl w.heap.size w7) (g := w.heap.size) (Nat.le_refl _) (i := 0) (j := 1) (k := 2) (l := 3) (u := .int .i64 0) (v := .int .i64 0) (x := .int .i64 0) (y := .int .i64 hv)
         have hfin := HS6.out.far4 (v0 := .int .i64 0) (v1 := .int .i64 0) (v2 := .int .i64 0) (v3 := .int .i64 hv) (N := w.heap.size) (fun k hk => own_in HO.out.own.dr k hk) HZ6.out (Nat.le_refl _)
         refine ⟨_, rfl, ?_, hfin, ((HB1.out.mono (by omega : base <= w.heap.size)).trans HB6.out).trans (hb8.mono (by omega)), HQ6.out.set4 (.inr (.inr (Nat.le_refl _))) 0 1 2 3 _ _ _ _, ⟨rfl, rfl, by simp, rfl, rfl, rfl⟩⟩
         show (⟨_, (h.chans.set k ⟨x.gen + 1, capacity, true, false, none, 0, []⟩).map Chn.p, _, _⟩ : HallP) = _
         rw [List.map_set]
         rfl
     . by_cases hcm : min c.gens 4095 <= x.gen
       . have hd : decide (c.gens <= x.gen) = true := decide_eq_true (by omega)
         have HST1 : Hid (roomK c.gens ((h.chans.map Chn.p).drop k) (0 + k) = roomK c.gens ((h.chans.map Chn.p).drop (k + 1)) (0 + (k + 1))) := Zd (by rw [HST.out, if_neg (show ¬ x.p.used = true by show ¬ x.used = true; rw [hus]; simp)]; exact if_pos hcm)
         have HSP1 : Hid (spentB c.gens ((h.chans.map Chn.p).take (k + 1)) = true) := Zd (by rw [HSP.out]; show (_ || (!x.used && decide (min c.gens 4095 <= x.gen))) = true; rw [hus, decide_eq_true hcm]; simp)
         clear hus HST HSP hcm
         go_region
         go_wp2_with fail
         go_roundg (m - (k + 1))
         case measure => rw [HG.out]; omega
         case rel => exact ⟨k + 1, by omega, rfl, by go_num, by rw [HSP1.out], HRM.out.trans HST1.out, by first | exact HBQ1.out | exact HBQ1.out.drew | exact Below.drewN' HBQ1.out _⟩
       . have hd : decide (c.gens <= x.gen) = false := decide_eq_false (by omega)
         have hx1 := HX0.out
         have hx2 : x.gen + 1 <= 4095 := by omega
         have HNW : Hid (R = (⟨h.ticket, (h.chans.map Chn.p).set k ⟨x.gen + 1, capacity, true, false, []⟩, h.waits.map Wtr.p, h.done⟩, rV (handP k (x.gen + 1)))) := Zd (by
          have e : roomK c.gens (h.chans.map Chn.p) 0 = some k := by
           rw [HRM.out, HST.out, if_neg (show ¬ x.p.used = true by show ¬ x.used = true; rw [hus]; simp), if_neg (show ¬ min c.gens 4095 <= x.p.gen from hcm), Nat.zero_add]
          rw [HRR.out, e]
          simp only
          rw [chP_getD, HX.out]
          rfl)
         have HHD := Zd (fun W => rfHandle_any (k : Int) (x.gen + 1) W (by omega) (by omega) (by omega) hx2)
         generalize handP (k : Int) (x.gen + 1) = hv at *
         clear hus HST HSP hcm HRR
         have HC1 := Zd HS1.out.own.cr
         rw [HCA.out] at HC1
         obtain ⟨c0, c1, c2, c3, c4⟩ := chn_cells (k := k) (x := x) (own_cellAt HC1.out) HKC.out HX.out
         simp only [Nat.zero_add] at c0 c1 c2 c3 c4
         have cf := own_free HC1.out
         obtain ⟨s0, s1, s2, s3⟩ := HS1.out.hal
         rw [HCA.out, HNN.out] at s1
         have n1 : g ≠ gc := by have h1 := own_blk_neL HC1.out HS1.out.box (by decide); simpa [Value.ownBlock] using h1
         have n1' := n1.symm
         have n2 : gx ≠ gc := by omega
         have n2' := n2.symm
         go_region
         go_upto_region 10 with fail
         go_region
         have HXC := Zd (HS1.out.setChan HCA.out HKC.out ⟨x.gen + 1, capacity, true, false, none, 0, []⟩ (own_nil _ _ _ _))
         have HS6 : Hid (HSt base g (((((W1.setCell ⟨gc, k * 5, none⟩ (.int .i64 (x.gen + 1))).setCell ⟨gc, k * 5 + 1, none⟩ (.int .i64 capacity)).setCell ⟨gc, k * 5 + 2, none⟩ (.bool true)).setCell ⟨gc, k * 5 + 3, none⟩ (.bool false)).setCell ⟨gc, k * 5 + 4, none⟩ (.slice none 0 0)).drew.drew ⟨h.ticket, h.CA, h.cc, h.chans.set k ⟨x.gen + 1, capacity, true, false, none, 0, []⟩, h.WA, h.wc, h.waits, h.DA, h.dc, h.done⟩ c t n) := Zd (((show HSt base g (((((W1.setCell ⟨gc, k * 5, none⟩ (.int .i64 (x.gen + 1))).setCell ⟨gc, k * 5 + 1, none⟩ (.int .i64 capacity)).setCell ⟨gc, k * 5 + 2, none⟩ (.bool true)).setCell ⟨gc, k * 5 + 3, none⟩ (.bool false)).setCell ⟨gc, k * 5 + 4, none⟩ (.slice none 0 0)) _ c t n from HXC.out.1).below (Below.refl _ _).drew).below (Below.refl _ _).drew)
         have HB6 : Hid (Below base W1 (((((W1.setCell ⟨gc, k * 5, none⟩ (.int .i64 (x.gen + 1))).setCell ⟨gc, k * 5 + 1, none⟩ (.int .i64 capacity)).setCell ⟨gc, k * 5 + 2, none⟩ (.bool true)).setCell ⟨gc, k * 5 + 3, none⟩ (.bool false)).setCell ⟨gc, k * 5 + 4, none⟩ (.slice none 0 0)).drew.drew) := Zd ((show Below base W1 (((((W1.setCell ⟨gc, k * 5, none⟩ (.int .i64 (x.gen + 1))).setCell ⟨gc, k * 5 + 1, none⟩ (.int .i64 capacity)).setCell ⟨gc, k * 5 + 2, none⟩ (.bool true)).setCell ⟨gc, k * 5 + 3, none⟩ (.bool false)).setCell ⟨gc, k * 5 + 4, none⟩ (.slice none 0 0)) from HXC.out.2).drew.drew)
         have HZ6 : Hid (Blk (((((W1.setCell ⟨gc, k * 5, none⟩ (.int .i64 (x.gen + 1))).setCell ⟨gc, k * 5 + 1, none⟩ (.int .i64 capacity)).setCell ⟨gc, k * 5 + 2, none⟩ (.bool true)).setCell ⟨gc, k * 5 + 3, none⟩ (.bool false)).setCell ⟨gc, k * 5 + 4, none⟩ (.slice none 0 0)).drew.drew w.heap.size 42 [.int .i64 0, .int .i64 0, .int .i64 0, .int .i64 0]) := Zd (Blk.drew (Blk.drew (show Blk (((((W1.setCell ⟨gc, k * 5, none⟩ (.int .i64 (x.gen + 1))).setCell ⟨gc, k * 5 + 1, none⟩ (.int .i64 capacity)).setCell ⟨gc, k * 5 + 2, none⟩ (.bool true)).setCell ⟨gc, k * 5 + 3, none⟩ (.bool false)).setCell ⟨gc, k * 5 + 4, none⟩ (.slice none 0 0)) w.heap.size _ _ from blk_sets HZ1.out HC1.out (by decide) (k * 5) (Chn.cells ⟨x.gen + 1, capacity, true, false, none, 0, []⟩))))
         have HT6 : Hid (Blk (((((W1.setCell ⟨gc, k * 5, none⟩ (.int .i64 (x.gen + 1))).setCell ⟨gc, k * 5 + 1, none⟩ (.int .i64 capacity)).setCell ⟨gc, k * 5 + 2, none⟩ (.bool true)).setCell ⟨gc, k * 5 + 3, none⟩ (.bool false)).setCell ⟨gc, k * 5 + 4, none⟩ (.slice none 0 0)).drew.drew gx 124 x.cells) := Zd (Blk.drew (Blk.drew (show Blk (((((W1.setCell ⟨gc, k * 5, none⟩ (.int .i64 (x.gen + 1))).setCell ⟨gc, k * 5 + 1, none⟩ (.int .i64 capacity)).setCell ⟨gc, k * 5 + 2, none⟩ (.bool true)).setCell ⟨gc, k * 5 + 3, none⟩ (.bool false)).setCell ⟨gc, k * 5 + 4, none⟩ (.slice none 0 0)) gx _ _ from HBX.out.sets n2 (k * 5) (Chn.cells ⟨x.gen + 1, capacity, true, false, none, 0, []⟩))))
         have HQ6 : Hid (HKeeps g h w (((((W1.setCell ⟨gc, k * 5, none⟩ (.int .i64 (x.gen + 1))).setCell ⟨gc, k * 5 + 1, none⟩ (.int .i64 capacity)).setCell ⟨gc, k * 5 + 2, none⟩ (.bool true)).setCell ⟨gc, k * 5 + 3, none⟩ (.bool false)).setCell ⟨gc, k * 5 + 4, none⟩ (.slice none 0 0)).drew.drew) := Zd (((HKeeps.of HB1.out (Nat.le_refl _)).set5 (.inr (.inl (.inl HCO.out))) _ _ _ _ _ _ _ _ _ _).drew.drew)
         clear s0 s1 s2 s3 c0 c1 c2 c3 c4 cf n1 n1' n2 n2' HXC x0 x2 s13
         generalize (((((W1.setCell ⟨gc, k * 5, none⟩ (.int .i64 (x.gen + 1))).setCell ⟨gc, k * 5 + 1, none⟩ (.int .i64 capacity)).setCell ⟨gc, k * 5 + 2, none⟩ (.bool true)).setCell ⟨gc, k * 5 + 3, none⟩ (.bool false)).setCell ⟨gc, k * 5 + 4, none⟩ (.slice none 0 0)).drew.drew = W6 at *
         have x0 := HT6.out.cell (i := 0) rfl
         have z0 := HZ6.out.cell (i := 0) rfl
         have z0f := HZ6.out.frozen 0
         have z1 := HZ6.out.cell (i := 1) rfl
         have z1f := HZ6.out.frozen 1
         have z2 := HZ6.out.cell (i := 2) rfl
         have z2f := HZ6.out.frozen 2
         have z3 := HZ6.out.cell (i := 3) rfl
         have z3f := HZ6.out.frozen 3
         go_wp2_with (go_at_call 193
                      refine (HHD.out _).mono ?_
                      rintro er w7 ⟨rfl, rfl⟩)
         refine bodyPost_ret (v := rsV ⟨0, 0, 0, hv⟩) (ret_cell (g := w.heap.size) rfl rfl (rsl_load (r := ⟨0, 0, 0, hv⟩) (put4 HZ6.out))) rfl ?_
         rw [HNW.out]
         have hb8 := below4 (Below.refl w.heap.size w7) (g := w.heap.size) (Nat.le_refl _) (i := 0) (j := 1) (k := 2) (l := 3) (u := .int .i64 0) (v := .int .i64 0) (x := .int .i64 0) (y := .int .i64 hv)
         have hfin := HS6.out.far4 (v0 := .int .i64 0) (v1 := .int .i64 0) (v2 := .int .i64 0) (v3 := .int .i64 hv) (N := w.heap.size) (fun k hk => own_in HO.out.own.dr k hk) HZ6.out (Nat.le_refl _)
         refine ⟨_, rfl, ?_, hfin, ((HB1.out.mono (by omega : base <= w.heap.size)).trans HB6.out).trans (hb8.mono (by omega)), HQ6.out.set4 (.inr (.inr (Nat.le_refl _))) 0 1 2 3 _ _ _ _, ⟨rfl, rfl, by simp, rfl, rfl, rfl⟩⟩
         show (⟨_, (h.chans.set k ⟨x.gen + 1, capacity, true, false, none, 0, []⟩).map Chn.p, _, _⟩ : HallP) = _
         rw [List.map_set]
         rfl
  . obtain rfl : k = m := by omega
    have HTE : Hid ((h.chans.map Chn.p).take k = h.chans.map Chn.p) := Zd (List.take_of_length_le (by rw [HLN.out, <- HNN.out]; exact Nat.le_refl _))
    have HDE : Hid (roomK c.gens (h.chans.map Chn.p) 0 = none) := Zd (by rw [HRM.out, List.drop_of_length_le (by rw [HLN.out, <- HNN.out]; exact Nat.le_refl _)]; rfl)
    have HRX : Hid (R = (h.p, rC (if spentB c.gens (h.chans.map Chn.p) = true then 7 else 6))) := Zd (by rw [HRR.out, HDE.out])
    rw [HTE.out]
    have z0 := HZR.out.cell (i := 0) rfl
    have z0f := HZR.out.frozen 0
    have z1 := HZR.out.cell (i := 1) rfl
    have z1f := HZR.out.frozen 1
    have z2 := HZR.out.cell (i := 2) rfl
    have z2f := HZR.out.frozen 2
    have z3 := HZR.out.cell (i := 3) rfl
    have z3f := HZR.out.frozen 3
    cases hsp : spentB c.gens (h.chans.map Chn.p)
    . have HR : Hid (R = (h.p, rC 6)) := Zd (by rw [HRX.out, hsp]; rfl)
      clear HRX hsp
      go_wp2_with fail
      refine bodyPost_ret (v := rsV ⟨0, 0, 6, 0⟩) (ret_cell (g := w.heap.size) rfl rfl (rsl_load (r := ⟨0, 0, 6, 0⟩) (put4 HZR.out))) rfl ?_
      rw [HR.out]
      have hb4 := below4 HBR.out (g := w.heap.size) (Nat.le_refl _) (i := 0) (j := 1) (k := 2) (l := 3) (u := .int .i64 0) (v := .int .i64 0) (x := .int .i64 6) (y := .int .i64 0)
      exact ⟨h, rfl, rfl, HH.out _ hb4, hb4.mono (by omega), HKeeps.of hb4 (Nat.le_refl _), .refl h⟩
    . have HR : Hid (R = (h.p, rC 7)) := Zd (by rw [HRX.out, hsp]; rfl)
      clear HRX hsp
      go_wp2_with fail
      refine bodyPost_ret (v := rsV ⟨0, 0, 7, 0⟩) (ret_cell (g := w.heap.size) rfl rfl (rsl_load (r := ⟨0, 0, 7, 0⟩) (put4 HZR.out))) rfl ?_
      rw [HR.out]
      have hb4 := below4 HBR.out (g := w.heap.size) (Nat.le_refl _) (i := 0) (j := 1) (k := 2) (l := 3) (u := .int .i64 0) (v := .int .i64 0) (x := .int .i64 7) (y := .int .i64 0)
      exact ⟨h, rfl, rfl, HH.out _ hb4, hb4.mono (by omega), HKeeps.of hb4 (Nat.le_refl _), .refl h⟩
end Go.Proofs.YtieglgahfeecbaaGreatDoor
