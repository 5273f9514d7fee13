/- A region that draws its order: what loads read need hold only till one operation (the first store) has come up. -/
import Derived.Deep.RegionHeld
import Derived.Test.YtieglgahfeecbaaGreatDoorP1
import Derived.Test.YtieglgahfeecbaaGreatDoorP22
set_option maxHeartbeats 64000000
set_option maxRecDepth 100000
namespace Go.Proofs.YtieglgahfeecbaaGreatDoor
open Go.RowKit Go.Sort
attribute [local go_sem ↓] Go.wp_at_zero Go.wp_at_succ
theorem hCall_any (base g : Nat) (h : Hal) (c : Cfg) (t n : Int) (q : Reqr) (cs : List Cse) (w : World) (H : HSt base g w h c t n) (hf : HalFew h) (h8 : h.chans.length <= 8) (hge : ∀ x ∈ h.chans, 0 <= x.gen) (htk : 0 <= h.ticket) (hr : Rd w q.A (rows cs)) (hn : q.n = cs.length) (hl : cs.length <= 1048576) :
  Calls Tryz.prog 140 #[.pointer (some ⟨g, 0, none⟩), reqV q] w (RetStK base g h c t n (callH c.gens c.cap h.p t n (q.p cs)).1 (callH c.gens c.cap h.p t n (q.p cs)).2 w) := by
 obtain ⟨b0, b1, hb2⟩ := box2 w 40 42 q.cells [.int .i64 0, .int .i64 0, .int .i64 0, .int .i64 0]
 have HY0 := Zd b0
 have HZ := Zd b1
 have HA := Zd hb2
 have HH := Zd (fun W (hb : Below w.heap.size w W) => H.below hb)
 have HF := Zd hf
 have HO := Zd H
 have H8 := Zd h8
 have HGE := Zd hge
 have HTK := Zd htk
 have HRD := Zd (fun W (hb : Below w.heap.size w W) => hr.below hb)
 have HN := Zd hn
 have HL := Zd hl
 have hgl := H.lt
 have hnw := H.new
 have HDN := Zd (show ∀ j, Value.ownBlock (.slice h.DA h.done.length h.dc) = some j -> j < w.heap.size from fun j hj => own_in H.own.dr j hj)
 have HNB := Zd (show ¬ HalBlk h (w.heap.size + 1) from by
  rintro (h1 | h1)
  . have := own_in H.own.cr _ h1; omega
  . have := HDN.out _ h1; omega)
 generalize hR : callH c.gens c.cap h.p t n (q.p cs) = R at *
 have HR0 := Zd hR
 clear H hf h8 hge htk hr hn hl hR b0 b1 hb2
 have hg1 : g ≠ w.heap.size := Nat.ne_of_lt hgl
 have hg2 : g ≠ w.heap.size + 1 := by omega
 obtain ⟨kq, aq, vq, dq, QA, nq, cq⟩ := q
 simp only [Reqr.cells] at HY0 HZ HA HRD HN
 unfold reqV
 simp only
 by_cases hk : kq = 1
 . subst hk
   have HRV : Hid (R = openS c.gens c.cap h.p aq) := Zd (by rw [<- HR0.out]; rfl)
   clear HR0
   go_enter Tryz.func140, Tryz.ntmps140
   go_upto_region 1 with fail
   generalize ((w.alloc (.cells #[.int .i64 1, .int .i64 aq, .int .i64 vq, .bool dq, .slice QA nq cq] 40)).alloc (.cells #[.int .i64 0, .int .i64 0, .int .i64 0, .int .i64 0] 42)) = W0 at *
   have q0 := HY0.out.cell (i := 0) rfl
   have q1 := HY0.out.cell (i := 1) rfl
   have q2 := HY0.out.cell (i := 2) rfl
   have q3 := HY0.out.cell (i := 3) rfl
   have q4 := HY0.out.cell (i := 4) rfl
   have HSA := Zd (HH.out _ HA.out)
   have HON := Zd (hOpen_any base g h c t n aq W0 HSA.out H8.out HGE.out)
   obtain ⟨⟨rs, rc, re, rv⟩, hqr⟩ : ∃ r : Resr, r = (openS c.gens c.cap h.p aq).2 := ⟨_, rfl⟩
   rw [<- hqr] at HON
   have HQR := Zd hqr
   clear hqr
   try unfold reqV at HON
   go_wp2_with (go_at_call 171
                refine HON.out.mono ?_
                rintro er w5 ⟨h5, rfl, hp5, hs5, hb5, hk5, hr5⟩
                have HP5 := Zd hp5
                have HS5 := Zd hs5
                have HB5 := Zd hb5
                have HK5 := Zd hk5
                have HR5 := Zd hr5
                have HZ5 := Zd (hk5.blk HZ.out (Ne.symm hg2) HNB.out)
                clear hp5 hs5 hb5 hk5 hr5
                have z0 := HZ5.out.cell (i := 0) rfl
                have z0f := HZ5.out.frozen 0
                have z1 := HZ5.out.cell (i := 1) rfl
                have z1f := HZ5.out.frozen 1
                have z2 := HZ5.out.cell (i := 2) rfl
                have z2f := HZ5.out.frozen 2
                have z3 := HZ5.out.cell (i := 3) rfl
                have z3f := HZ5.out.frozen 3)
   refine bodyPost_ret (v := rsV ⟨rs, rc, re, rv⟩) (ret_cell (g := w.heap.size + 1) rfl rfl (rsl_load (r := ⟨rs, rc, re, rv⟩) (put4 HZ5.out))) rfl ?_
   rw [HRV.out, <- HQR.out]
   have hb8 := below4 (Below.refl w.heap.size w5) (g := w.heap.size + 1) (Nat.le_succ _) (i := 0) (j := 1) (k := 2) (l := 3) (u := .int .i64 rs) (v := .int .i64 rc) (x := .int .i64 re) (y := .int .i64 rv)
   have hfin := HS5.out.far4 (v0 := .int .i64 rs) (v1 := .int .i64 rc) (v2 := .int .i64 re) (v3 := .int .i64 rv) (N := w.heap.size) (fun j hj => HDN.out j (by rw [<- HR5.out.done]; exact hj)) HZ5.out (Nat.le_succ _)
   exact ⟨h5, rfl, HP5.out, hfin, ((HA.out.mono (by omega : base <= w.heap.size)).trans HB5.out).trans (hb8.mono (by omega)), (((HKeeps.of HA.out (Nat.le_refl _)).trans HA.out.size HK5.out).set4 (.inr (.inr (Nat.le_succ _))) 0 1 2 3 _ _ _ _), HR5.out⟩
 have n1 : (kq == 1) = false := by simp [hk]
 have m1 := hk
 clear hk
 by_cases hk : kq = 2
 . subst hk
   have HRV : Hid (R = freeS h.p aq) := Zd (by rw [<- HR0.out]; rfl)
   clear HR0
   go_enter Tryz.func140, Tryz.ntmps140
   go_upto_region 1 with fail
   generalize ((w.alloc (.cells #[.int .i64 2, .int .i64 aq, .int .i64 vq, .bool dq, .slice QA nq cq] 40)).alloc (.cells #[.int .i64 0, .int .i64 0, .int .i64 0, .int .i64 0] 42)) = W0 at *
   have q0 := HY0.out.cell (i := 0) rfl
   have q1 := HY0.out.cell (i := 1) rfl
   have q2 := HY0.out.cell (i := 2) rfl
   have q3 := HY0.out.cell (i := 3) rfl
   have q4 := HY0.out.cell (i := 4) rfl
   have HSA := Zd (HH.out _ HA.out)
   have HON := Zd (hFree_any base g h c t n aq W0 HSA.out HF.out)
   obtain ⟨⟨rs, rc, re, rv⟩, hqr⟩ : ∃ r : Resr, r = (freeS h.p aq).2 := ⟨_, rfl⟩
   rw [<- hqr] at HON
   have HQR := Zd hqr
   clear hqr
   try unfold reqV at HON
   go_wp2_with (go_at_call 172
                refine HON.out.mono ?_
                rintro er w5 ⟨h5, rfl, hp5, hs5, hb5, hk5, hr5⟩
                have HP5 := Zd hp5
                have HS5 := Zd hs5
                have HB5 := Zd hb5
                have HK5 := Zd hk5
                have HR5 := Zd hr5
                have HZ5 := Zd (hk5.blk HZ.out (Ne.symm hg2) HNB.out)
                clear hp5 hs5 hb5 hk5 hr5
                have z0 := HZ5.out.cell (i := 0) rfl
                have z0f := HZ5.out.frozen 0
                have z1 := HZ5.out.cell (i := 1) rfl
                have z1f := HZ5.out.frozen 1
                have z2 := HZ5.out.cell (i := 2) rfl
                have z2f := HZ5.out.frozen 2
                have z3 := HZ5.out.cell (i := 3) rfl
                have z3f := HZ5.out.frozen 3)
   refine bodyPost_ret (v := rsV ⟨rs, rc, re, rv⟩) (ret_cell (g := w.heap.size + 1) rfl rfl (rsl_load (r := ⟨rs, rc, re, rv⟩) (put4 HZ5.out))) rfl ?_
   rw [HRV.out, <- HQR.out]
   have hb8 := below4 (Below.refl w.heap.size w5) (g := w.heap.size + 1) (Nat.le_succ _) (i := 0) (j := 1) (k := 2) (l := 3) (u := .int .i64 rs) (v := .int .i64 rc) (x := .int .i64 re) (y := .int .i64 rv)
   have hfin := HS5.out.far4 (v0 := .int .i64 rs) (v1 := .int .i64 rc) (v2 := .int .i64 re) (v3 := .int .i64 rv) (N := w.heap.size) (fun j hj => HDN.out j (by rw [<- HR5.out.done]; exact hj)) HZ5.out (Nat.le_succ _)
   exact ⟨h5, rfl, HP5.out, hfin, ((HA.out.mono (by omega : base <= w.heap.size)).trans HB5.out).trans (hb8.mono (by omega)), (((HKeeps.of HA.out (Nat.le_refl _)).trans HA.out.size HK5.out).set4 (.inr (.inr (Nat.le_succ _))) 0 1 2 3 _ _ _ _), HR5.out⟩
 have n2 : (kq == 2) = false := by simp [hk]
 have m2 := hk
 clear hk
 by_cases hk : kq = 3
 . subst hk
   have HRV : Hid (R = chooseS h.p t n (Reqr.p ⟨3, aq, vq, dq, QA, nq, cq⟩ cs)) := Zd (by rw [<- HR0.out]; rfl)
   clear HR0
   go_enter Tryz.func140, Tryz.ntmps140
   go_upto_region 1 with fail
   generalize ((w.alloc (.cells #[.int .i64 3, .int .i64 aq, .int .i64 vq, .bool dq, .slice QA nq cq] 40)).alloc (.cells #[.int .i64 0, .int .i64 0, .int .i64 0, .int .i64 0] 42)) = W0 at *
   have q0 := HY0.out.cell (i := 0) rfl
   have q1 := HY0.out.cell (i := 1) rfl
   have q2 := HY0.out.cell (i := 2) rfl
   have q3 := HY0.out.cell (i := 3) rfl
   have q4 := HY0.out.cell (i := 4) rfl
   have HSA := Zd (HH.out _ HA.out)
   have HON := Zd (hChoose_any base g h c t n ⟨3, aq, vq, dq, QA, nq, cq⟩ cs W0 HSA.out HF.out HTK.out (HRD.out _ HA.out) HN.out HL.out)
   obtain ⟨⟨rs, rc, re, rv⟩, hqr⟩ : ∃ r : Resr, r = (chooseS h.p t n (Reqr.p ⟨3, aq, vq, dq, QA, nq, cq⟩ cs)).2 := ⟨_, rfl⟩
   rw [<- hqr] at HON
   have HQR := Zd hqr
   clear hqr
   try unfold reqV at HON
   go_wp2_with (go_at_call 173
                refine HON.out.mono ?_
                rintro er w5 ⟨h5, rfl, hp5, hs5, hb5, hk5, hr5⟩
                have HP5 := Zd hp5
                have HS5 := Zd hs5
                have HB5 := Zd hb5
                have HK5 := Zd hk5
                have HR5 := Zd hr5
                have HZ5 := Zd (hk5.blk HZ.out (Ne.symm hg2) HNB.out)
                clear hp5 hs5 hb5 hk5 hr5
                have z0 := HZ5.out.cell (i := 0) rfl
                have z0f := HZ5.out.frozen 0
                have z1 := HZ5.out.cell (i := 1) rfl
                have z1f := HZ5.out.frozen 1
                have z2 := HZ5.out.cell (i := 2) rfl
                have z2f := HZ5.out.frozen 2
                have z3 := HZ5.out.cell (i := 3) rfl
                have z3f := HZ5.out.frozen 3)
   refine bodyPost_ret (v := rsV ⟨rs, rc, re, rv⟩) (ret_cell (g := w.heap.size + 1) rfl rfl (rsl_load (r := ⟨rs, rc, re, rv⟩) (put4 HZ5.out))) rfl ?_
   rw [HRV.out, <- HQR.out]
   have hb8 := below4 (Below.refl w.heap.size w5) (g := w.heap.size + 1) (Nat.le_succ _) (i := 0) (j := 1) (k := 2) (l := 3) (u := .int .i64 rs) (v := .int .i64 rc) (x := .int .i64 re) (y := .int .i64 rv)
   have hfin := HS5.out.far4 (v0 := .int .i64 rs) (v1 := .int .i64 rc) (v2 := .int .i64 re) (v3 := .int .i64 rv) (N := w.heap.size) (fun j hj => HDN.out j (by rw [<- HR5.out.done]; exact hj)) HZ5.out (Nat.le_succ _)
   exact ⟨h5, rfl, HP5.out, hfin, ((HA.out.mono (by omega : base <= w.heap.size)).trans HB5.out).trans (hb8.mono (by omega)), (((HKeeps.of HA.out (Nat.le_refl _)).trans HA.out.size HK5.out).set4 (.inr (.inr (Nat.le_succ _))) 0 1 2 3 _ _ _ _), HR5.out⟩
 have n3 : (kq == 3) = false := by simp [hk]
 have m3 := hk
 clear hk
 by_cases hk : kq = 4
 . subst hk
   have HRV : Hid (R = shutH h.p aq) := Zd (by rw [<- HR0.out]; rfl)
   clear HR0
   go_enter Tryz.func140, Tryz.ntmps140
   go_upto_region 1 with fail
   generalize ((w.alloc (.cells #[.int .i64 4, .int .i64 aq, .int .i64 vq, .bool dq, .slice QA nq cq] 40)).alloc (.cells #[.int .i64 0, .int .i64 0, .int .i64 0, .int .i64 0] 42)) = W0 at *
   have q0 := HY0.out.cell (i := 0) rfl
   have q1 := HY0.out.cell (i := 1) rfl
   have q2 := HY0.out.cell (i := 2) rfl
   have q3 := HY0.out.cell (i := 3) rfl
   have q4 := HY0.out.cell (i := 4) rfl
   have HSA := Zd (HH.out _ HA.out)
   have HON := Zd (hShut_any base g h c t n aq W0 HSA.out HF.out)
   obtain ⟨⟨rs, rc, re, rv⟩, hqr⟩ : ∃ r : Resr, r = (shutH h.p aq).2 := ⟨_, rfl⟩
   rw [<- hqr] at HON
   have HQR := Zd hqr
   clear hqr
   try unfold reqV at HON
   go_wp2_with (go_at_call 174
                refine HON.out.mono ?_
                rintro er w5 ⟨h5, rfl, hp5, hs5, hb5, hk5, hr5⟩
                have HP5 := Zd hp5
                have HS5 := Zd hs5
                have HB5 := Zd hb5
                have HK5 := Zd hk5
                have HR5 := Zd hr5
                have HZ5 := Zd (hk5.blk HZ.out (Ne.symm hg2) HNB.out)
                clear hp5 hs5 hb5 hk5 hr5
                have z0 := HZ5.out.cell (i := 0) rfl
                have z0f := HZ5.out.frozen 0
                have z1 := HZ5.out.cell (i := 1) rfl
                have z1f := HZ5.out.frozen 1
                have z2 := HZ5.out.cell (i := 2) rfl
                have z2f := HZ5.out.frozen 2
                have z3 := HZ5.out.cell (i := 3) rfl
                have z3f := HZ5.out.frozen 3)
   refine bodyPost_ret (v := rsV ⟨rs, rc, re, rv⟩) (ret_cell (g := w.heap.size + 1) rfl rfl (rsl_load (r := ⟨rs, rc, re, rv⟩) (put4 HZ5.out))) rfl ?_
   rw [HRV.out, <- HQR.out]
   have hb8 := below4 (Below.refl w.heap.size w5) (g := w.heap.size + 1) (Nat.le_succ _) (i := 0) (j := 1) (k := 2) (l := 3) (u := .int .i64 rs) (v := .int .i64 rc) (x := .int .i64 re) (y := .int .i64 rv)
   have hfin := HS5.out.far4 (v0 := .int .i64 rs) (v1 := .int .i64 rc) (v2 := .int .i64 re) (v3 := .int .i64 rv) (N := w.heap.size) (fun j hj => HDN.out j (by rw [<- HR5.out.done]; exact hj)) HZ5.out (Nat.le_succ _)
   exact ⟨h5, rfl, HP5.out, hfin, ((HA.out.mono (by omega : base <= w.heap.size)).trans HB5.out).trans (hb8.mono (by omega)), (((HKeeps.of HA.out (Nat.le_refl _)).trans HA.out.size HK5.out).set4 (.inr (.inr (Nat.le_succ _))) 0 1 2 3 _ _ _ _), HR5.out⟩
 have n4 : (kq == 4) = false := by simp [hk]
 have m4 := hk
 clear hk
 by_cases hk : kq = 5
 . subst hk
   have HRV : Hid (R = ((h.p, lookS h.p (Reqr.p ⟨5, aq, vq, dq, QA, nq, cq⟩ cs)) : HallP × Resr)) := Zd (by rw [<- HR0.out]; rfl)
   clear HR0
   go_enter Tryz.func140, Tryz.ntmps140
   go_upto_region 1 with fail
   generalize ((w.alloc (.cells #[.int .i64 5, .int .i64 aq, .int .i64 vq, .bool dq, .slice QA nq cq] 40)).alloc (.cells #[.int .i64 0, .int .i64 0, .int .i64 0, .int .i64 0] 42)) = W0 at *
   have q0 := HY0.out.cell (i := 0) rfl
   have q1 := HY0.out.cell (i := 1) rfl
   have q2 := HY0.out.cell (i := 2) rfl
   have q3 := HY0.out.cell (i := 3) rfl
   have q4 := HY0.out.cell (i := 4) rfl
   have HSA := Zd (HH.out _ HA.out)
   have HON := Zd (hLook_any base g h c t n ⟨5, aq, vq, dq, QA, nq, cq⟩ cs W0 HSA.out HF.out.cf)
   obtain ⟨⟨rs, rc, re, rv⟩, hqr⟩ : ∃ r : Resr, r = (((h.p, lookS h.p (Reqr.p ⟨5, aq, vq, dq, QA, nq, cq⟩ cs)) : HallP × Resr)).2 := ⟨_, rfl⟩
   replace HON : Hid (Calls Tryz.prog _ _ W0 (fun e w' => e = .returned (rsV (((h.p, lookS h.p (Reqr.p ⟨5, aq, vq, dq, QA, nq, cq⟩ cs)) : HallP × Resr)).2) /\ Below W0.heap.size W0 w')) := Zd HON.out
   rw [<- hqr] at HON
   have HQR := Zd hqr
   clear hqr
   try unfold reqV at HON
   go_wp2_with (go_at_call 175
                refine HON.out.mono ?_
                rintro er w5 ⟨rfl, hb5⟩
                have HB5 := Zd hb5
                have HZ5 := Zd (HZ.out.below hb5 HZ.out.lt)
                clear hb5
                have z0 := HZ5.out.cell (i := 0) rfl
                have z0f := HZ5.out.frozen 0
                have z1 := HZ5.out.cell (i := 1) rfl
                have z1f := HZ5.out.frozen 1
                have z2 := HZ5.out.cell (i := 2) rfl
                have z2f := HZ5.out.frozen 2
                have z3 := HZ5.out.cell (i := 3) rfl
                have z3f := HZ5.out.frozen 3)
   refine bodyPost_ret (v := rsV ⟨rs, rc, re, rv⟩) (ret_cell (g := w.heap.size + 1) rfl rfl (rsl_load (r := ⟨rs, rc, re, rv⟩) (put4 HZ5.out))) rfl ?_
   rw [HRV.out, <- HQR.out]
   have hb8 := below4 (HA.out.trans (HB5.out.mono HA.out.size)) (g := w.heap.size + 1) (Nat.le_succ _) (i := 0) (j := 1) (k := 2) (l := 3) (u := .int .i64 rs) (v := .int .i64 rc) (x := .int .i64 re) (y := .int .i64 rv)
   exact ⟨h, rfl, rfl, HH.out _ hb8, hb8.mono (by omega), HKeeps.of hb8 (Nat.le_refl _), .refl h⟩
 have n5 : (kq == 5) = false := by simp [hk]
 have m5 := hk
 clear hk
 by_cases hk : kq = 6
 . subst hk
   have HRV : Hid (R = ((h.p, lookS h.p (Reqr.p ⟨6, aq, vq, dq, QA, nq, cq⟩ cs)) : HallP × Resr)) := Zd (by rw [<- HR0.out]; rfl)
   clear HR0
   go_enter Tryz.func140, Tryz.ntmps140
   go_upto_region 1 with fail
   generalize ((w.alloc (.cells #[.int .i64 6, .int .i64 aq, .int .i64 vq, .bool dq, .slice QA nq cq] 40)).alloc (.cells #[.int .i64 0, .int .i64 0, .int .i64 0, .int .i64 0] 42)) = W0 at *
   have q0 := HY0.out.cell (i := 0) rfl
   have q1 := HY0.out.cell (i := 1) rfl
   have q2 := HY0.out.cell (i := 2) rfl
   have q3 := HY0.out.cell (i := 3) rfl
   have q4 := HY0.out.cell (i := 4) rfl
   have HSA := Zd (HH.out _ HA.out)
   have HON := Zd (hLook_any base g h c t n ⟨6, aq, vq, dq, QA, nq, cq⟩ cs W0 HSA.out HF.out.cf)
   obtain ⟨⟨rs, rc, re, rv⟩, hqr⟩ : ∃ r : Resr, r = (((h.p, lookS h.p (Reqr.p ⟨6, aq, vq, dq, QA, nq, cq⟩ cs)) : HallP × Resr)).2 := ⟨_, rfl⟩
   replace HON : Hid (Calls Tryz.prog _ _ W0 (fun e w' => e = .returned (rsV (((h.p, lookS h.p (Reqr.p ⟨6, aq, vq, dq, QA, nq, cq⟩ cs)) : HallP × Resr)).2) /\ Below W0.heap.size W0 w')) := Zd HON.out
   rw [<- hqr] at HON
   have HQR := Zd hqr
   clear hqr
   try unfold reqV at HON
   go_wp2_with (go_at_call 175
                refine HON.out.mono ?_
                rintro er w5 ⟨rfl, hb5⟩
                have HB5 := Zd hb5
                have HZ5 := Zd (HZ.out.below hb5 HZ.out.lt)
                clear hb5
                have z0 := HZ5.out.cell (i := 0) rfl
                have z0f := HZ5.out.frozen 0
                have z1 := HZ5.out.cell (i := 1) rfl
                have z1f := HZ5.out.frozen 1
                have z2 := HZ5.out.cell (i := 2) rfl
                have z2f := HZ5.out.frozen 2
                have z3 := HZ5.out.cell (i := 3) rfl
                have z3f := HZ5.out.frozen 3)
   refine bodyPost_ret (v := rsV ⟨rs, rc, re, rv⟩) (ret_cell (g := w.heap.size + 1) rfl rfl (rsl_load (r := ⟨rs, rc, re, rv⟩) (put4 HZ5.out))) rfl ?_
   rw [HRV.out, <- HQR.out]
   have hb8 := below4 (HA.out.trans (HB5.out.mono HA.out.size)) (g := w.heap.size + 1) (Nat.le_succ _) (i := 0) (j := 1) (k := 2) (l := 3) (u := .int .i64 rs) (v := .int .i64 rc) (x := .int .i64 re) (y := .int .i64 rv)
   exact ⟨h, rfl, rfl, HH.out _ hb8, hb8.mono (by omega), HKeeps.of hb8 (Nat.le_refl _), .refl h⟩
 have n6 : (kq == 6) = false := by simp [hk]
 have m6 := hk
 clear hk
 by_cases hk : kq = 7
 . subst hk
   have HRV : Hid (R = cancelS h.p t aq vq) := Zd (by rw [<- HR0.out]; rfl)
   clear HR0
   go_enter Tryz.func140, Tryz.ntmps140
   go_upto_region 1 with fail
   generalize ((w.alloc (.cells #[.int .i64 7, .int .i64 aq, .int .i64 vq, .bool dq, .slice QA nq cq] 40)).alloc (.cells #[.int .i64 0, .int .i64 0, .int .i64 0, .int .i64 0] 42)) = W0 at *
   have q0 := HY0.out.cell (i := 0) rfl
   have q1 := HY0.out.cell (i := 1) rfl
   have q2 := HY0.out.cell (i := 2) rfl
   have q3 := HY0.out.cell (i := 3) rfl
   have q4 := HY0.out.cell (i := 4) rfl
   have HSA := Zd (HH.out _ HA.out)
   have HON := Zd (hCancel_any base g h c t n aq vq W0 HSA.out HF.out)
   obtain ⟨⟨rs, rc, re, rv⟩, hqr⟩ : ∃ r : Resr, r = (cancelS h.p t aq vq).2 := ⟨_, rfl⟩
   rw [<- hqr] at HON
   have HQR := Zd hqr
   clear hqr
   try unfold reqV at HON
   go_wp2_with (go_at_call 176
                refine HON.out.mono ?_
                rintro er w5 ⟨h5, rfl, hp5, hs5, hb5, hk5, hr5⟩
                have HP5 := Zd hp5
                have HS5 := Zd hs5
                have HB5 := Zd hb5
                have HK5 := Zd hk5
                have HR5 := Zd hr5
                have HZ5 := Zd (hk5.blk HZ.out (Ne.symm hg2) HNB.out)
                clear hp5 hs5 hb5 hk5 hr5
                have z0 := HZ5.out.cell (i := 0) rfl
                have z0f := HZ5.out.frozen 0
                have z1 := HZ5.out.cell (i := 1) rfl
                have z1f := HZ5.out.frozen 1
                have z2 := HZ5.out.cell (i := 2) rfl
                have z2f := HZ5.out.frozen 2
                have z3 := HZ5.out.cell (i := 3) rfl
                have z3f := HZ5.out.frozen 3)
   refine bodyPost_ret (v := rsV ⟨rs, rc, re, rv⟩) (ret_cell (g := w.heap.size + 1) rfl rfl (rsl_load (r := ⟨rs, rc, re, rv⟩) (put4 HZ5.out))) rfl ?_
   rw [HRV.out, <- HQR.out]
   have hb8 := below4 (Below.refl w.heap.size w5) (g := w.heap.size + 1) (Nat.le_succ _) (i := 0) (j := 1) (k := 2) (l := 3) (u := .int .i64 rs) (v := .int .i64 rc) (x := .int .i64 re) (y := .int .i64 rv)
   have hfin := HS5.out.far4 (v0 := .int .i64 rs) (v1 := .int .i64 rc) (v2 := .int .i64 re) (v3 := .int .i64 rv) (N := w.heap.size) (fun j hj => HDN.out j (by rw [<- HR5.out.done]; exact hj)) HZ5.out (Nat.le_succ _)
   exact ⟨h5, rfl, HP5.out, hfin, ((HA.out.mono (by omega : base <= w.heap.size)).trans HB5.out).trans (hb8.mono (by omega)), (((HKeeps.of HA.out (Nat.le_refl _)).trans HA.out.size HK5.out).set4 (.inr (.inr (Nat.le_succ _))) 0 1 2 3 _ _ _ _), HR5.out⟩
 have n7 : (kq == 7) = false := by simp [hk]
 have m7 := hk
 clear hk
 have HR : Hid (R = (h.p, rC 1)) := Zd (by
  rw [<- HR0.out]
  unfold callH
  rw [if_neg (show ¬ (Reqr.p ⟨kq, aq, vq, dq, QA, nq, cq⟩ cs).kind = 1 from m1), if_neg (show ¬ (Reqr.p ⟨kq, aq, vq, dq, QA, nq, cq⟩ cs).kind = 2 from m2), if_neg (show ¬ (Reqr.p ⟨kq, aq, vq, dq, QA, nq, cq⟩ cs).kind = 3 from m3), if_neg (show ¬ (Reqr.p ⟨kq, aq, vq, dq, QA, nq, cq⟩ cs).kind = 4 from m4), if_neg (show ¬ ((Reqr.p ⟨kq, aq, vq, dq, QA, nq, cq⟩ cs).kind = 5 ∨ (Reqr.p ⟨kq, aq, vq, dq, QA, nq, cq⟩ cs).kind = 6) from by rintro (e | e); exact m5 e; exact m6 e), if_neg (show ¬ (Reqr.p ⟨kq, aq, vq, dq, QA, nq, cq⟩ cs).kind = 7 from m7)])
 clear HR0 m1 m2 m3 m4 m5 m6 m7
 go_enter Tryz.func140, Tryz.ntmps140
 go_upto_region 1 with fail
 generalize ((w.alloc (.cells #[.int .i64 kq, .int .i64 aq, .int .i64 vq, .bool dq, .slice QA nq cq] 40)).alloc (.cells #[.int .i64 0, .int .i64 0, .int .i64 0, .int .i64 0] 42)) = W0 at *
 have q0 := HY0.out.cell (i := 0) rfl
 have q1 := HY0.out.cell (i := 1) rfl
 have q2 := HY0.out.cell (i := 2) rfl
 have q3 := HY0.out.cell (i := 3) rfl
 have q4 := HY0.out.cell (i := 4) rfl
 have HSA := Zd (HH.out _ HA.out)
 have z0 := HZ.out.cell (i := 0) rfl
 have z0f := HZ.out.frozen 0
 have z1 := HZ.out.cell (i := 1) rfl
 have z1f := HZ.out.frozen 1
 have z2 := HZ.out.cell (i := 2) rfl
 have z2f := HZ.out.frozen 2
 have z3 := HZ.out.cell (i := 3) rfl
 have z3f := HZ.out.frozen 3
 go_wp2_with fail
 refine bodyPost_ret (v := rsV ⟨0, 0, 1, 0⟩) (ret_cell (g := w.heap.size + 1) rfl rfl (rsl_load (r := ⟨0, 0, 1, 0⟩) (put4 HZ.out))) rfl ?_
 rw [HR.out]
 have hb4 := below4 HA.out (g := w.heap.size + 1) (by omega) (i := 0) (j := 1) (k := 2) (l := 3) (u := .int .i64 0) (v := .int .i64 0) (x := .int .i64 1) (y := .int .i64 0)
 exact ⟨h, rfl, rfl, HH.out _ hb4, hb4.mono (by omega), HKeeps.of hb4 (Nat.le_refl _), .refl h⟩
def RetHal (p : HallP) (w : World) (e : Ending) (w' : World) : Prop := ∃ h' : Hal, e = .returned (halV h') /\ h'.p = p /\ OwnHal w.heap.size w' h' /\ Below w.heap.size w w'
theorem OwnHal.boxedH {base g i : Nat} {w : World} {h : Hal} {cs : List Value} {v : Value} (H : OwnHal base w h) (hb : Blk w g 87 cs) : OwnHal base (w.setCell ⟨g, i, none⟩ v) h :=
 ⟨own_ty H.cr hb (by decide) i v, fun x hx => own_ty (H.cb x hx) hb (by decide) i v, H.wr.box hb (by decide) (by decide) i v, own_ty H.dr hb (by decide) i v⟩
theorem hal_load {w : World} {g : Nat} {h : Hal} (hb : Blk w g 87 [.int .i64 h.ticket, .slice h.CA h.chans.length h.cc, .slice h.WA h.waits.length h.wc, .slice h.DA h.done.length h.dc]) : (loadVar 87 ⟨g, 0, none⟩).run Tryz.prog w = .ok (halV h) w :=
 run_loadVar_row (P := Tryz.prog) w g 87 87 _ (0, 0) _ hb Tryz.underlying87 rfl (by kernel_rfl)
structure HalPre (h : Hal) : Prop where
 h8 : h.chans.length <= 8
 wf : h.waits.length <= 4096
 df : h.done.length <= 4096
 ge : ∀ x ∈ h.chans, 0 <= x.gen
 bf : ∀ x ∈ h.chans, x.buf.length <= 1048576
 cf : ∀ x ∈ h.waits, x.cs.length <= 1048576
 tk : 0 <= h.ticket
theorem HalPre.of {h h1 : Hal} (H : HalPre h) (e : h1.p = h.p) : HalPre h1 := by
 have e1 : h1.ticket = h.ticket := congrArg HallP.ticket e
 have e2 : h1.chans.map Chn.p = h.chans.map Chn.p := congrArg HallP.chans e
 have e3 : h1.waits.map Wtr.p = h.waits.map Wtr.p := congrArg HallP.waits e
 have e4 : h1.done = h.done := congrArg HallP.done e
 have l2 := congrArg List.length e2
 have l3 := congrArg List.length e3
 rw [List.length_map, List.length_map] at l2 l3
 have m2 : ∀ x ∈ h1.chans, ∃ y ∈ h.chans, y.p = x.p := fun x hx => by
  have := List.mem_map_of_mem (f := Chn.p) hx
  rw [e2] at this
  exact List.mem_map.mp this
 have m3 : ∀ x ∈ h1.waits, ∃ y ∈ h.waits, y.p = x.p := fun x hx => by
  have := List.mem_map_of_mem (f := Wtr.p) hx
  rw [e3] at this
  exact List.mem_map.mp this
 refine ⟨l2 ▸ H.h8, l3 ▸ H.wf, e4 ▸ H.df, fun x hx => ?_, fun x hx => ?_, fun x hx => ?_, e1 ▸ H.tk⟩
 . obtain ⟨y, hy, h2⟩ := m2 x hx
   have := congrArg ChP.gen h2
   have h3 := H.ge y hy
   exact (show y.gen = x.gen from this) ▸ h3
 . obtain ⟨y, hy, h2⟩ := m2 x hx
   have := congrArg ChP.buf h2
   have h3 := H.bf y hy
   exact (show y.buf = x.buf from this) ▸ h3
 . obtain ⟨y, hy, h2⟩ := m3 x hx
   have := congrArg WtP.cs h2
   have h3 := H.cf y hy
   exact (show y.cs = x.cs from this) ▸ h3
theorem HalPre.few {h : Hal} (H : HalPre h) : HalFew h := ⟨by have := H.h8; omega, H.bf, H.wf, H.cf, H.df⟩
theorem hApply_any (c : Cfg) (h : Hal) (t n : Int) (q : Reqr) (cs : List Cse) (w : World) (H : HalAt w h) (hpre : HalPre h) (hr : Rd w q.A (rows cs)) (hn : q.n = cs.length) (hl : cs.length <= 1048576)
  (hcp : ∀ W, HalAt W h -> Calls Tryz.prog 139 #[halV h] W (RetHal h.p W)) :
  Calls Tryz.prog 107 #[cfgV c, halV h, .int .i64 t, .int .i64 n, reqV q] w (RetHal (applyH c.gens c.cap h.p t n (q.p cs)) w) := by
 have HA1 := Zd ((Below.refl w.heap.size w).alloc (Nat.le_refl _) (.cells #[.int .i64 c.kind, .int .i64 c.threads, .int .i64 c.chans, .int .i64 c.cap, .int .i64 c.nodes, .int .i64 c.retire, .int .i64 c.patience, .int .i64 c.tags, .int .i64 c.seqs, .int .i64 c.gens, .slice c.sa c.start.length c.sc] 24))
 have HA2 := Zd (HA1.out.alloc HA1.out.size (.cells #[.int .i64 h.ticket, .slice h.CA h.chans.length h.cc, .slice h.WA h.waits.length h.wc, .slice h.DA h.done.length h.dc] 87))
 have HA3 := Zd (HA2.out.alloc HA2.out.size (.cells #[.int .i64 q.kind, .int .i64 q.arg, .int .i64 q.value, .bool q.dflt, .slice q.A q.n q.c] 40))
 have HA := Zd (HA3.out.alloc HA3.out.size (.cells #[.int .i64 0, .slice none 0 0, .slice none 0 0, .slice none 0 0] 87))
 have hs1 : (w.alloc (.cells #[.int .i64 c.kind, .int .i64 c.threads, .int .i64 c.chans, .int .i64 c.cap, .int .i64 c.nodes, .int .i64 c.retire, .int .i64 c.patience, .int .i64 c.tags, .int .i64 c.seqs, .int .i64 c.gens, .slice c.sa c.start.length c.sc] 24)).heap.size = w.heap.size + 1 := by simp
 have hs2 : ((w.alloc (.cells #[.int .i64 c.kind, .int .i64 c.threads, .int .i64 c.chans, .int .i64 c.cap, .int .i64 c.nodes, .int .i64 c.retire, .int .i64 c.patience, .int .i64 c.tags, .int .i64 c.seqs, .int .i64 c.gens, .slice c.sa c.start.length c.sc] 24)).alloc (.cells #[.int .i64 h.ticket, .slice h.CA h.chans.length h.cc, .slice h.WA h.waits.length h.wc, .slice h.DA h.done.length h.dc] 87)).heap.size = w.heap.size + 2 := by simp
 have hs3 : (((w.alloc (.cells #[.int .i64 c.kind, .int .i64 c.threads, .int .i64 c.chans, .int .i64 c.cap, .int .i64 c.nodes, .int .i64 c.retire, .int .i64 c.patience, .int .i64 c.tags, .int .i64 c.seqs, .int .i64 c.gens, .slice c.sa c.start.length c.sc] 24)).alloc (.cells #[.int .i64 h.ticket, .slice h.CA h.chans.length h.cc, .slice h.WA h.waits.length h.wc, .slice h.DA h.done.length h.dc] 87)).alloc (.cells #[.int .i64 q.kind, .int .i64 q.arg, .int .i64 q.value, .bool q.dflt, .slice q.A q.n q.c] 40)).heap.size = w.heap.size + 3 := by simp
 have HC0 := Zd ((((Blk.new w 24 [.int .i64 c.kind, .int .i64 c.threads, .int .i64 c.chans, .int .i64 c.cap, .int .i64 c.nodes, .int .i64 c.retire, .int .i64 c.patience, .int .i64 c.tags, .int .i64 c.seqs, .int .i64 c.gens, .slice c.sa c.start.length c.sc]).alloc (.cells #[.int .i64 h.ticket, .slice h.CA h.chans.length h.cc, .slice h.WA h.waits.length h.wc, .slice h.DA h.done.length h.dc] 87)).alloc (.cells #[.int .i64 q.kind, .int .i64 q.arg, .int .i64 q.value, .bool q.dflt, .slice q.A q.n q.c] 40)).alloc (.cells #[.int .i64 0, .slice none 0 0, .slice none 0 0, .slice none 0 0] 87))
 have HH0 : Hid (Blk ((((w.alloc (.cells #[.int .i64 c.kind, .int .i64 c.threads, .int .i64 c.chans, .int .i64 c.cap, .int .i64 c.nodes, .int .i64 c.retire, .int .i64 c.patience, .int .i64 c.tags, .int .i64 c.seqs, .int .i64 c.gens, .slice c.sa c.start.length c.sc] 24)).alloc (.cells #[.int .i64 h.ticket, .slice h.CA h.chans.length h.cc, .slice h.WA h.waits.length h.wc, .slice h.DA h.done.length h.dc] 87)).alloc (.cells #[.int .i64 q.kind, .int .i64 q.arg, .int .i64 q.value, .bool q.dflt, .slice q.A q.n q.c] 40)).alloc (.cells #[.int .i64 0, .slice none 0 0, .slice none 0 0, .slice none 0 0] 87)) (w.heap.size + 1) 87 [.int .i64 h.ticket, .slice h.CA h.chans.length h.cc, .slice h.WA h.waits.length h.wc, .slice h.DA h.done.length h.dc]) := Zd (((blk_new hs1.symm).alloc _).alloc _)
 have HQ0 : Hid (Blk ((((w.alloc (.cells #[.int .i64 c.kind, .int .i64 c.threads, .int .i64 c.chans, .int .i64 c.cap, .int .i64 c.nodes, .int .i64 c.retire, .int .i64 c.patience, .int .i64 c.tags, .int .i64 c.seqs, .int .i64 c.gens, .slice c.sa c.start.length c.sc] 24)).alloc (.cells #[.int .i64 h.ticket, .slice h.CA h.chans.length h.cc, .slice h.WA h.waits.length h.wc, .slice h.DA h.done.length h.dc] 87)).alloc (.cells #[.int .i64 q.kind, .int .i64 q.arg, .int .i64 q.value, .bool q.dflt, .slice q.A q.n q.c] 40)).alloc (.cells #[.int .i64 0, .slice none 0 0, .slice none 0 0, .slice none 0 0] 87)) (w.heap.size + 1 + 1) 40 [.int .i64 q.kind, .int .i64 q.arg, .int .i64 q.value, .bool q.dflt, .slice q.A q.n q.c]) := Zd ((blk_new hs2.symm).alloc _)
 have HZ0 : Hid (Blk ((((w.alloc (.cells #[.int .i64 c.kind, .int .i64 c.threads, .int .i64 c.chans, .int .i64 c.cap, .int .i64 c.nodes, .int .i64 c.retire, .int .i64 c.patience, .int .i64 c.tags, .int .i64 c.seqs, .int .i64 c.gens, .slice c.sa c.start.length c.sc] 24)).alloc (.cells #[.int .i64 h.ticket, .slice h.CA h.chans.length h.cc, .slice h.WA h.waits.length h.wc, .slice h.DA h.done.length h.dc] 87)).alloc (.cells #[.int .i64 q.kind, .int .i64 q.arg, .int .i64 q.value, .bool q.dflt, .slice q.A q.n q.c] 40)).alloc (.cells #[.int .i64 0, .slice none 0 0, .slice none 0 0, .slice none 0 0] 87)) (w.heap.size + 1 + 1 + 1) 87 [.int .i64 0, .slice none 0 0, .slice none 0 0, .slice none 0 0]) := Zd (blk_new hs3.symm)
 have HHA := Zd (fun W (hb : Below w.heap.size w W) => H.below hb)
 have HRD := Zd (fun W (hb : Below w.heap.size w W) => hr.below hb)
 have HCP := Zd hcp
 have HN := Zd hn
 have HL := Zd hl
 have HPRE := Zd hpre
 clear H hpre hr hn hl hcp hs1 hs2 hs3 HA1 HA2 HA3
 unfold reqV
 go_enter Tryz.func107, Tryz.ntmps107
 go_upto_region 1 with fail
 generalize ((((w.alloc (.cells #[.int .i64 c.kind, .int .i64 c.threads, .int .i64 c.chans, .int .i64 c.cap, .int .i64 c.nodes, .int .i64 c.retire, .int .i64 c.patience, .int .i64 c.tags, .int .i64 c.seqs, .int .i64 c.gens, .slice c.sa c.start.length c.sc] 24)).alloc (.cells #[.int .i64 h.ticket, .slice h.CA h.chans.length h.cc, .slice h.WA h.waits.length h.wc, .slice h.DA h.done.length h.dc] 87)).alloc (.cells #[.int .i64 q.kind, .int .i64 q.arg, .int .i64 q.value, .bool q.dflt, .slice q.A q.n q.c] 40)).alloc (.cells #[.int .i64 0, .slice none 0 0, .slice none 0 0, .slice none 0 0] 87)) = W0 at *
 have HSZ := Zd (show w.heap.size + 3 < W0.heap.size from HZ0.out.lt)
 have a0 := HC0.out.cell (i := 0) rfl
 have a1 := HC0.out.cell (i := 1) rfl
 have a2 := HC0.out.cell (i := 2) rfl
 have a3 := HC0.out.cell (i := 3) rfl
 have a4 := HC0.out.cell (i := 4) rfl
 have a5 := HC0.out.cell (i := 5) rfl
 have a6 := HC0.out.cell (i := 6) rfl
 have a7 := HC0.out.cell (i := 7) rfl
 have a8 := HC0.out.cell (i := 8) rfl
 have a9 := HC0.out.cell (i := 9) rfl
 have a10 := HC0.out.cell (i := 10) rfl
 have e0 := HH0.out.cell (i := 0) rfl
 have e1 := HH0.out.cell (i := 1) rfl
 have e2 := HH0.out.cell (i := 2) rfl
 have e3 := HH0.out.cell (i := 3) rfl
 have k0 : w.heap.size < W0.heap.size := HC0.out.lt
 have k1 : w.heap.size + 1 < W0.heap.size := HH0.out.lt
 have HCW := Zd (fun W (hb : Below W0.heap.size W0 W) => HCP.out W (HHA.out W (btr HA.out hb)))
 go_region_held3 (fun w' => w'.cell? ⟨w.heap.size + 1, 0, none⟩ = some (.int .i64 h.ticket) /\ w'.cell? ⟨w.heap.size + 1, 1, none⟩ = some (.slice h.CA h.chans.length h.cc) /\ w'.cell? ⟨w.heap.size + 1, 2, none⟩ = some (.slice h.WA h.waits.length h.wc) /\ w'.cell? ⟨w.heap.size + 1, 3, none⟩ = some (.slice h.DA h.done.length h.dc) /\ w'.cell? ⟨w.heap.size, 0, none⟩ = some (.int .i64 c.kind) /\ w'.cell? ⟨w.heap.size, 1, none⟩ = some (.int .i64 c.threads) /\ w'.cell? ⟨w.heap.size, 2, none⟩ = some (.int .i64 c.chans) /\ w'.cell? ⟨w.heap.size, 3, none⟩ = some (.int .i64 c.cap) /\ w'.cell? ⟨w.heap.size, 4, none⟩ = some (.int .i64 c.nodes) /\ w'.cell? ⟨w.heap.size, 5, none⟩ = some (.int .i64 c.retire) /\ w'.cell? ⟨w.heap.size, 6, none⟩ = some (.int .i64 c.patience) /\ w'.cell? ⟨w.heap.size, 7, none⟩ = some (.int .i64 c.tags) /\ w'.cell? ⟨w.heap.size, 8, none⟩ = some (.int .i64 c.seqs) /\ w'.cell? ⟨w.heap.size, 9, none⟩ = some (.int .i64 c.gens) /\ w'.cell? ⟨w.heap.size, 10, none⟩ = some (.slice c.sa c.start.length c.sc)) (first | go_keep | (simp only [hk1, hk2]; go_keep)) (first
  | (go_at_call 139
     refine (HCW.out _ ?_).mono ?_
     . first | exact Below.refl _ _ | exact (Below.refl _ _).drew | exact Below.drewN' (Below.refl W0.heap.size W0) 1
     rintro er w1 ⟨h1, rfl, hp1, ho1, hb1'⟩
     have hb1 : Below W0.heap.size W0 w1 := ⟨hb1'.os, hb1'.tape, hb1'.output, hb1'.size, hb1'.block⟩
     have hk1 := fun o => hb1.cell (p := ⟨w.heap.size, o, none⟩) k0
     have hk2 := fun o => hb1.cell (p := ⟨w.heap.size + 1, o, none⟩) k1))
 rename_i hheld1
 clear hheld1 hk1 hk2 hb1' a0 a1 a2 a3 a4 a5 a6 a7 a8 a9 a10 e0 e1 e2 e3 k0 k1 HCW
 have HB1 := Zd hb1
 have HP1 := Zd hp1
 have HPR1 := Zd (HPRE.out.of hp1)
 have HST : Hid (HSt W0.heap.size w1.heap.size (w1.alloc (.cells #[.int .i64 h1.ticket, .slice h1.CA h1.chans.length h1.cc, .slice h1.WA h1.waits.length h1.wc, .slice h1.DA h1.done.length h1.dc, .int .i64 c.kind, .int .i64 c.threads, .int .i64 c.chans, .int .i64 c.cap, .int .i64 c.nodes, .int .i64 c.retire, .int .i64 c.patience, .int .i64 c.tags, .int .i64 c.seqs, .int .i64 c.gens, .slice c.sa c.start.length c.sc, .int .i64 t, .int .i64 n] 181)) h1 c t n) := Zd ⟨Blk.new w1 181 (hstCells h1 c t n), (show OwnHal W0.heap.size w1 h1 from ho1).below ((Below.refl _ _).alloc (Nat.le_refl _) _), hb1.size⟩
 have HB2 := Zd (hb1.alloc hb1.size (.cells #[.int .i64 h1.ticket, .slice h1.CA h1.chans.length h1.cc, .slice h1.WA h1.waits.length h1.wc, .slice h1.DA h1.done.length h1.dc, .int .i64 c.kind, .int .i64 c.threads, .int .i64 c.chans, .int .i64 c.cap, .int .i64 c.nodes, .int .i64 c.retire, .int .i64 c.patience, .int .i64 c.tags, .int .i64 c.seqs, .int .i64 c.gens, .slice c.sa c.start.length c.sc, .int .i64 t, .int .i64 n] 181))
 clear hb1 hp1 ho1
 generalize w1.alloc (.cells #[.int .i64 h1.ticket, .slice h1.CA h1.chans.length h1.cc, .slice h1.WA h1.waits.length h1.wc, .slice h1.DA h1.done.length h1.dc, .int .i64 c.kind, .int .i64 c.threads, .int .i64 c.chans, .int .i64 c.cap, .int .i64 c.nodes, .int .i64 c.retire, .int .i64 c.patience, .int .i64 c.tags, .int .i64 c.seqs, .int .i64 c.gens, .slice c.sa c.start.length c.sc, .int .i64 t, .int .i64 n] 181) = W2 at *
 generalize w1.heap.size = g at *
 have HBW := Zd (HA.out.trans (HB2.out.mono HA.out.size))
 have HQ2 := Zd (HQ0.out.below HB2.out HQ0.out.lt)
 have HON := Zd (hCall_any W0.heap.size g h1 c t n q cs W2 HST.out HPR1.out.few HPR1.out.h8 HPR1.out.ge HPR1.out.tk (HRD.out _ HBW.out) HN.out HL.out)
 rw [HP1.out] at HON
 generalize hX : callH c.gens c.cap h.p t n (q.p cs) = X at *
 have HX := Zd hX
 clear hX
 obtain ⟨⟨rs, rc, re, rv⟩, hqr⟩ : ∃ r : Resr, r = X.2 := ⟨_, rfl⟩
 rw [<- hqr] at HON
 have HQR := Zd hqr
 clear hqr
 unfold reqV at HON
 have q0 := HQ2.out.cell (i := 0) rfl
 have q1 := HQ2.out.cell (i := 1) rfl
 have q2 := HQ2.out.cell (i := 2) rfl
 have q3 := HQ2.out.cell (i := 3) rfl
 have q4 := HQ2.out.cell (i := 4) rfl
 go_upto_region 4 with (go_at_call 140
                        refine HON.out.mono ?_
                        rintro er w3 ⟨h3, rfl, hp3, hs3, hb3, hk3, hr3⟩
                        have HP3 := Zd hp3
                        have HS3 := Zd hs3
                        have HB3 := Zd hb3
                        clear hp3 hs3 hb3 hk3 hr3 q0 q1 q2 q3 q4)
 have HDN3 := Zd (show ∀ j, Value.ownBlock (.slice h3.DA h3.done.length h3.dc) = some j -> j < w3.heap.size from fun j hj => own_in HS3.out.own.dr j hj)
 have HS4 : Hid (HSt W0.heap.size g (w3.alloc (.cells #[.int .i64 n, .int .i64 rc, .int .i64 re, .int .i64 rv] 42)) h3 c t n) := Zd (HS3.out.below ((Below.refl _ _).alloc (Nat.le_refl _) _))
 have HR4 : Hid (Blk (w3.alloc (.cells #[.int .i64 n, .int .i64 rc, .int .i64 re, .int .i64 rv] 42)) w3.heap.size 42 [.int .i64 n, .int .i64 rc, .int .i64 re, .int .i64 rv]) := Zd (Blk.new w3 42 [.int .i64 n, .int .i64 rc, .int .i64 re, .int .i64 rv])
 have HB4 : Hid (Below W0.heap.size W0 (w3.alloc (.cells #[.int .i64 n, .int .i64 rc, .int .i64 re, .int .i64 rv] 42))) := Zd (HB2.out.trans (HB3.out.trans ((Below.refl W0.heap.size w3).alloc (by have := HB2.out.size; have := HB3.out.size; omega) _)))
 have HGL := Zd (show W0.heap.size <= g /\ g < w3.heap.size from ⟨HST.out.new, HS3.out.lt⟩)
 generalize w3.alloc (.cells #[.int .i64 n, .int .i64 rc, .int .i64 re, .int .i64 rv] 42) = W4 at *
 generalize w3.heap.size = gr at *
 have g3 := HS4.out.box.cell (i := 3) rfl
 have gl := HS4.out.lt
 by_cases hin : inL h3.done.length t
 . have hin1 := hin.1
   have hin2 := hin.2
   obtain ⟨u, rfl⟩ : ∃ u : Nat, t = u := ⟨t.toNat, by omega⟩
   have hul : u < h3.done.length := by omega
   have d1 : decide ((u : Int) ≥ 0) = true := decide_eq_true hin1
   have d2 : decide ((u : Int) < (h3.done.length : Int)) = true := decide_eq_true hin2
   have HIN := Zd hin
   clear hin
   go_upto_region 5 with fail
   obtain ⟨gd, hDA, hgd1, hgd2⟩ := own_some HS4.out.own.dr (by omega)
   have HDA := Zd hDA
   have HDR := Zd (show W4.ownsRow W0.heap.size 42 4 (.slice (some ⟨gd, 0, none⟩) h3.done.length h3.dc) h3.done.length (rows h3.done) by rw [<- hDA]; exact HS4.out.own.dr)
   obtain ⟨d0, d1', d2', d3⟩ := rsr_cells (k := u) (x := h3.done.getD u Resr.none) (own_cellAt HDR.out) hul rfl
   simp only [Nat.zero_add] at d0 d1' d2' d3
   have zd := own_free HDR.out
   rw [hDA] at g3
   have r0 := HR4.out.cell (i := 0) rfl
   have r1 := HR4.out.cell (i := 1) rfl
   have r2 := HR4.out.cell (i := 2) rfl
   have r3 := HR4.out.cell (i := 3) rfl
   have u0 : (0 : Int) <= (u : Int) := by omega
   have u1 : (u : Int) < (h3.done.length : Int) := by omega
   have HXD := Zd (HS4.out.setDone (gd := gd) hDA (u := u) hul ⟨n, rc, re, rv⟩)
   clear hDA hgd1 hgd2
   go_region
   have HS5 : Hid (HSt W0.heap.size g ((((W4.setCell ⟨gd, u * 4, none⟩ (.int .i64 n)).setCell ⟨gd, u * 4 + 1, none⟩ (.int .i64 rc)).setCell ⟨gd, u * 4 + 2, none⟩ (.int .i64 re)).setCell ⟨gd, u * 4 + 3, none⟩ (.int .i64 rv)).drew ⟨h3.ticket, h3.CA, h3.cc, h3.chans, h3.WA, h3.wc, h3.waits, h3.DA, h3.dc, h3.done.set u ⟨n, rc, re, rv⟩⟩ c u n) := Zd ((show HSt W0.heap.size g ((((W4.setCell ⟨gd, u * 4, none⟩ (.int .i64 n)).setCell ⟨gd, u * 4 + 1, none⟩ (.int .i64 rc)).setCell ⟨gd, u * 4 + 2, none⟩ (.int .i64 re)).setCell ⟨gd, u * 4 + 3, none⟩ (.int .i64 rv)) _ c u n from HXD.out.1).below (Below.refl _ _).drew)
   have HB5 : Hid (Below W0.heap.size W0 ((((W4.setCell ⟨gd, u * 4, none⟩ (.int .i64 n)).setCell ⟨gd, u * 4 + 1, none⟩ (.int .i64 rc)).setCell ⟨gd, u * 4 + 2, none⟩ (.int .i64 re)).setCell ⟨gd, u * 4 + 3, none⟩ (.int .i64 rv)).drew) := Zd (HB4.out.trans ((show Below W0.heap.size W4 ((((W4.setCell ⟨gd, u * 4, none⟩ (.int .i64 n)).setCell ⟨gd, u * 4 + 1, none⟩ (.int .i64 rc)).setCell ⟨gd, u * 4 + 2, none⟩ (.int .i64 re)).setCell ⟨gd, u * 4 + 3, none⟩ (.int .i64 rv)) from HXD.out.2).drew))
   clear d0 d1' d2' d3 zd g3 gl r0 r1 r2 r3 u0 u1 HXD d1 d2
   generalize ((((W4.setCell ⟨gd, u * 4, none⟩ (.int .i64 n)).setCell ⟨gd, u * 4 + 1, none⟩ (.int .i64 rc)).setCell ⟨gd, u * 4 + 2, none⟩ (.int .i64 re)).setCell ⟨gd, u * 4 + 3, none⟩ (.int .i64 rv)).drew = W5 at *
   have HZ7 := Zd (HZ0.out.below HB5.out HZ0.out.lt)
   have g0 := HS5.out.box.cell (i := 0) rfl
   have g1 := HS5.out.box.cell (i := 1) rfl
   have g2 := HS5.out.box.cell (i := 2) rfl
   have g3 := HS5.out.box.cell (i := 3) rfl
   have gl := HS5.out.lt
   have gn : g ≠ w.heap.size + 1 + 1 + 1 := by have := HGL.out; have := HSZ.out; omega
   have gn' := gn.symm
   have z0 := HZ7.out.cell (i := 0) rfl
   have z0f := HZ7.out.frozen 0
   have z1 := HZ7.out.cell (i := 1) rfl
   have z1f := HZ7.out.frozen 1
   have z2 := HZ7.out.cell (i := 2) rfl
   have z2f := HZ7.out.frozen 2
   have z3 := HZ7.out.cell (i := 3) rfl
   have z3f := HZ7.out.frozen 3
   go_wp2_with fail
   refine bodyPost_ret (v := halV ⟨h3.ticket, h3.CA, h3.cc, h3.chans, h3.WA, h3.wc, h3.waits, h3.DA, h3.dc, h3.done.set u ⟨n, rc, re, rv⟩⟩) (ret_cell (g := w.heap.size + 1 + 1 + 1) rfl rfl (hal_load (h := ⟨h3.ticket, h3.CA, h3.cc, h3.chans, h3.WA, h3.wc, h3.waits, h3.DA, h3.dc, h3.done.set u ⟨n, rc, re, rv⟩⟩) (by simp only [List.length_set]; exact put4 HZ7.out))) rfl ?_
   have hb9 := below4 (HA.out.trans (HB5.out.mono HA.out.size)) (g := w.heap.size + 1 + 1 + 1) (by omega) (i := 0) (j := 1) (k := 2) (l := 3) (u := .int .i64 h3.ticket) (v := .slice h3.CA h3.chans.length h3.cc) (x := .slice h3.WA h3.waits.length h3.wc) (y := .slice h3.DA h3.done.length h3.dc)
   refine ⟨⟨h3.ticket, h3.CA, h3.cc, h3.chans, h3.WA, h3.wc, h3.waits, h3.DA, h3.dc, h3.done.set u ⟨n, rc, re, rv⟩⟩, rfl, ?_, (((((HS5.out.own.boxedH (i := 0) HZ7.out).boxedH (i := 1) (HZ7.out.set_ 0 _)).boxedH (i := 2) ((HZ7.out.set_ 0 _).set_ 1 _)).boxedH (i := 3) (((HZ7.out.set_ 0 _).set_ 1 _).set_ 2 _)).lower (by have := HSZ.out; omega)), hb9⟩
   show (⟨h3.ticket, h3.chans.map Chn.p, h3.waits.map Wtr.p, h3.done.set u ⟨n, rc, re, rv⟩⟩ : HallP) = applyH c.gens c.cap h.p u n (q.p cs)
   unfold applyH
   rw [HX.out]
   simp only
   rw [<- HQR.out, <- HP3.out, if_pos (show inL h3.p.done.length (u : Int) from HIN.out), Int.toNat_natCast]
   rfl
 . have HIN := Zd hin
   have HPQ := Zd (show h3.p = applyH c.gens c.cap h.p t n (q.p cs) from by
    unfold applyH
    rw [HX.out]
    simp only
    rw [<- HQR.out, <- HP3.out, if_neg (show ¬ inL h3.p.done.length t from HIN.out)])
   by_cases ht : 0 <= t
   . have d1 : decide (t ≥ 0) = true := decide_eq_true ht
     have d2 : decide (t < (h3.done.length : Int)) = false := decide_eq_false (fun h' => hin ⟨ht, h'⟩)
     clear hin ht
     go_upto_region 6 with fail
     clear g3 gl d1 d2
     have HZ7 := Zd (HZ0.out.below HB4.out HZ0.out.lt)
     have g0 := HS4.out.box.cell (i := 0) rfl
     have g1 := HS4.out.box.cell (i := 1) rfl
     have g2 := HS4.out.box.cell (i := 2) rfl
     have g3 := HS4.out.box.cell (i := 3) rfl
     have gl := HS4.out.lt
     have gn : g ≠ w.heap.size + 1 + 1 + 1 := by have := HGL.out; have := HSZ.out; omega
     have gn' := gn.symm
     have z0 := HZ7.out.cell (i := 0) rfl
     have z0f := HZ7.out.frozen 0
     have z1 := HZ7.out.cell (i := 1) rfl
     have z1f := HZ7.out.frozen 1
     have z2 := HZ7.out.cell (i := 2) rfl
     have z2f := HZ7.out.frozen 2
     have z3 := HZ7.out.cell (i := 3) rfl
     have z3f := HZ7.out.frozen 3
     go_wp2_with fail
     refine bodyPost_ret (v := halV h3) (ret_cell (g := w.heap.size + 1 + 1 + 1) rfl rfl (hal_load (h := h3) (put4 HZ7.out))) rfl ?_
     have hb9 := below4 (HA.out.trans (HB4.out.mono HA.out.size)) (g := w.heap.size + 1 + 1 + 1) (by omega) (i := 0) (j := 1) (k := 2) (l := 3) (u := .int .i64 h3.ticket) (v := .slice h3.CA h3.chans.length h3.cc) (x := .slice h3.WA h3.waits.length h3.wc) (y := .slice h3.DA h3.done.length h3.dc)
     refine ⟨h3, rfl, ?_, (((((HS4.out.own.boxedH (i := 0) HZ7.out).boxedH (i := 1) (HZ7.out.set_ 0 _)).boxedH (i := 2) ((HZ7.out.set_ 0 _).set_ 1 _)).boxedH (i := 3) (((HZ7.out.set_ 0 _).set_ 1 _).set_ 2 _)).lower (by have := HSZ.out; omega)), hb9⟩
     exact HPQ.out
   . have d1 : decide (t ≥ 0) = false := decide_eq_false ht
     clear hin ht
     go_upto_region 6 with fail
     clear g3 gl d1
     have HZ7 := Zd (HZ0.out.below HB4.out HZ0.out.lt)
     have g0 := HS4.out.box.cell (i := 0) rfl
     have g1 := HS4.out.box.cell (i := 1) rfl
     have g2 := HS4.out.box.cell (i := 2) rfl
     have g3 := HS4.out.box.cell (i := 3) rfl
     have gl := HS4.out.lt
     have gn : g ≠ w.heap.size + 1 + 1 + 1 := by have := HGL.out; have := HSZ.out; omega
     have gn' := gn.symm
     have z0 := HZ7.out.cell (i := 0) rfl
     have z0f := HZ7.out.frozen 0
     have z1 := HZ7.out.cell (i := 1) rfl
     have z1f := HZ7.out.frozen 1
     have z2 := HZ7.out.cell (i := 2) rfl
     have z2f := HZ7.out.frozen 2
     have z3 := HZ7.out.cell (i := 3) rfl
     have z3f := HZ7.out.frozen 3
     go_wp2_with fail
     refine bodyPost_ret (v := halV h3) (ret_cell (g := w.heap.size + 1 + 1 + 1) rfl rfl (hal_load (h := h3) (put4 HZ7.out))) rfl ?_
     have hb9 := below4 (HA.out.trans (HB4.out.mono HA.out.size)) (g := w.heap.size + 1 + 1 + 1) (by omega) (i := 0) (j := 1) (k := 2) (l := 3) (u := .int .i64 h3.ticket) (v := .slice h3.CA h3.chans.length h3.cc) (x := .slice h3.WA h3.waits.length h3.wc) (y := .slice h3.DA h3.done.length h3.dc)
     refine ⟨h3, rfl, ?_, (((((HS4.out.own.boxedH (i := 0) HZ7.out).boxedH (i := 1) (HZ7.out.set_ 0 _)).boxedH (i := 2) ((HZ7.out.set_ 0 _).set_ 1 _)).boxedH (i := 3) (((HZ7.out.set_ 0 _).set_ 1 _).set_ 2 _)).lower (by have := HSZ.out; omega)), hb9⟩
     exact HPQ.out
section
open Go.RowKit
section
variable {P : Program} {ops : Array Oper} {Q : Exit -> Act -> World -> Prop} {md : Region.Mode} {S : World -> Prop} {k : Nat}
def AnyT (P : Program) (md : Region.Mode) (ops : Array Oper) (Q : Exit -> Act -> World -> Prop) (S : World -> Prop) (k : Nat) : Nat -> Array Bool -> Act -> World -> Prop
 | 0, ls, a, w => Region.ready md ops ls = [] /\ Q .normal a w
 | f + 1, ls, a, w => (Region.ready md ops ls = [] -> Q .normal a w) /\
   ∀ i ∈ Region.ready md ops ls, wpOp P ops Q i (fun a' w' => ((ls.setIfInBounds i true).getD k false = false -> S w') /\ AnyT P md ops Q S k f (ls.setIfInBounds i true) a' w') a w
theorem AnyT.any : ∀ (f : Nat) (ls : Array Bool) (a : Act) (w : World), AnyT P md ops Q S k f ls a w -> wpAny P md ops Q f ls a w
 | 0, _, _, _, h => h
 | f + 1, _, _, _, h => ⟨h.1, fun i hi => wpOp_mono (fun a' w' h' => AnyT.any f _ a' w' h'.2) (h.2 i hi)⟩
theorem AnyT.region {id : Nat} {a : Act} {w : World} (hm : P.follows .mixedOrders = true) (hS : S w.drew) (h : S w.drew -> AnyT P .any ops Q S k ops.size (Array.replicate ops.size false) a w.drew) :
  (Code.region id ops true).wp P Q a w :=
 wp_region_any hm (AnyT.any _ _ _ _ (h hS))
def waitsFor (md : Region.Mode) (ops : Array Oper) (k i : Nat) : Bool :=
 match ops[k]? with
 | some o => o.after.any fun e => Region.binds md e && e.on == i
 | none => false
theorem waitsFor_spec {i : Nat} (h : waitsFor md ops k i = true) : ∃ o, ops[k]? = some o /\ ∃ e ∈ o.after, Region.binds md e = true /\ e.on = i := by
 unfold waitsFor at h
 split at h
 . rename_i o ho
   obtain ⟨e, he, hb⟩ := Array.any_eq_true'.1 h
   simp only [Bool.and_eq_true, beq_iff_eq] at hb
   exact ⟨o, ho, e, he, hb.1, hb.2⟩
 . exact absurd h (by decide)
theorem AnyT.early {i : Nat} {oi : Oper} {v : Value} (hi : ops[i]? = some oi) (hsel : ∀ (j : Nat) (o : Oper) cs b, ops[j]? = some o -> o.op ≠ .select cs b)
  (hQ : ∀ c a w, Q (.panic c) (a.put oi.dst v) w -> Q (.panic c) a w) (hk : waitsFor md ops k i = true) (hki : k ≠ i) :
  ∀ (f : Nat) (ls : Array Bool) (a : Act) (w : World),
   (∀ j oj, ops[j]? = some oj -> j ≠ i -> ls.getD j true = false -> (∀ e ∈ oj.after, Region.binds md e = true -> e.on ≠ i) -> oi.apart ops oj = true) ->
   i ∈ Region.ready md ops ls -> YieldsIf P ops S oi v a -> S w -> ls.getD k false = false ->
   AnyT P md ops Q S k f (ls.setIfInBounds i true) (a.put oi.dst v) w -> AnyT P md ops Q S k (f + 1) ls a w := by
 intro f
 induction f with
 | zero =>
   intro ls a w _ hr hy hS hlk H
   refine ⟨fun h => absurd (h ▸ hr) (by simp), fun j hj => ?_⟩
   by_cases e : j = i
   . subst e
     exact hy.wpOp hi hS ⟨fun _ => hS, H⟩
   . exact absurd (H.1 ▸ ready_mono hj e) (by simp)
 | succ f ih =>
   intro ls a w hfree hr hy hS hlk H
   refine ⟨fun h => absurd (h ▸ hr) (by simp), fun j hj => ?_⟩
   by_cases e : j = i
   . subst e
     exact hy.wpOp hi hS ⟨fun _ => hS, H⟩
   have h1 := H.2 j (ready_mono hj e)
   obtain ⟨hju, oj, hoj, hall⟩ := mem_ready.1 hj
   have hno : ∀ x ∈ oj.after, Region.binds md x = true -> x.on ≠ i := fun x hx hb hxi => by
    have g1 := hall x hx hb
    have g0 := (mem_ready.1 hr).1
    rw [hxi] at g1
    rcases Nat.lt_or_ge i ls.size with hl | hl
    . simp [hl] at g0 g1
      rw [g0] at g1
      cases g1
    . simp [Array.getElem?_eq_none hl] at g1
   have hjk : j ≠ k := fun e2 => by
    subst e2
    obtain ⟨o, ho, x, hx, hb, hxi⟩ := waitsFor_spec hk
    rw [hoj] at ho
    cases ho
    exact hno x hx hb hxi
   have h2 := wpOp_putIf hoj (hfree j oj hoj e hju hno) (fun cs b => hsel i oi cs b hi) (fun cs b => hsel j oj cs b hoj) hQ hy h1
   refine wpOp_mono (fun a' w' h3 => ?_) h2
   have hlk1 : (ls.setIfInBounds j true).getD k false = false := by rw [Go.getD_set_ne false hjk]; exact hlk
   have hlk2 : ((ls.setIfInBounds i true).setIfInBounds j true).getD k false = false := by rw [Go.getD_set_ne false hjk, Go.getD_set_ne false (Ne.symm hki)]; exact hlk
   have hSw := h3.2.1 hlk2
   refine ⟨fun _ => hSw, ih (ls.setIfInBounds j true) a' w' (fun n on hn hni hun hnn => hfree n on hn hni ?_ hnn) (ready_mono hr (Ne.symm e)) h3.1 hSw hlk1 ?_⟩
   . by_cases hjn : j = n
     . subst hjn; exact hju
     . rw [Go.getD_set_ne true hjn] at hun; exact hun
   . rw [Array.setIfInBounds_comm _ _ e]
     exact h3.2.2
theorem AnyT.take {i : Nat} {oi : Oper} {v : Value} {f : Nat} {ls : Array Bool} {a : Act} {w : World} (hi : ops[i]? = some oi)
  (hs : Region.noSelect ops = true) (hf : Region.free md ops ls i = true) (hr : (Region.ready md ops ls).contains i = true) (hk : (waitsFor md ops k i && !(k == i) && !(ls.getD k false)) = true)
  (hQ : ∀ c a w, Q (.panic c) (a.put oi.dst v) w -> Q (.panic c) a w) (hy : YieldsIf P ops S oi v a) (hS : S w)
  (h : AnyT P md ops Q S k f (ls.setIfInBounds i true) (a.put oi.dst v) w) : AnyT P md ops Q S k (f + 1) ls a w := by
 simp only [Bool.and_eq_true, Bool.not_eq_true', beq_eq_false_iff_ne] at hk
 exact AnyT.early hi (Region.noSelect_spec hs) hQ hk.1.1 hk.1.2 f ls a w (Region.free_spec hi hf) (by simpa using hr) hy hS hk.2 h
theorem AnyT.next {i : Nat} {o : Oper} {f : Nat} {ls : Array Bool} {a : Act} {w : World} (hr : Region.ready md ops ls = [i]) (ho : ops[i]? = some o)
  (h : ∀ K' : Act -> World -> Prop, Shut (∀ a w, S w -> (S w -> AnyT P md ops Q S k f (ls.setIfInBounds i true) a w) -> K' a w) -> if Region.wanted o (yielded ops a.tmps) = true then Oper.wp P o a w K' Q else K' (a.put o.dst undef) w) :
  AnyT P md ops Q S k (f + 1) ls a w := by
 refine ⟨fun h0 => absurd (hr ▸ h0) (by simp), fun j hj => ?_⟩
 rw [hr, List.mem_singleton] at hj
 subst hj
 exact wpOp_step ho (fun K' hK => h K' (fun a w hS hW => hK a w ⟨fun _ => hS, hW hS⟩))
theorem AnyT.past {i : Nat} {o : Oper} {f : Nat} {ls : Array Bool} {a : Act} {w : World} (hr : Region.ready md ops ls = [i]) (hk : (ls.setIfInBounds i true).getD k false = true) (ho : ops[i]? = some o)
  (h : ∀ K' : Act -> World -> Prop, Shut (∀ a w, AnyT P md ops Q S k f (ls.setIfInBounds i true) a w -> K' a w) -> if Region.wanted o (yielded ops a.tmps) = true then Oper.wp P o a w K' Q else K' (a.put o.dst undef) w) :
  AnyT P md ops Q S k (f + 1) ls a w := by
 refine ⟨fun h0 => absurd (hr ▸ h0) (by simp), fun j hj => ?_⟩
 rw [hr, List.mem_singleton] at hj
 subst hj
 exact wpOp_step ho (fun K' hK => h K' (fun a w hW => hK a w ⟨fun h0 => (by rw [hk] at h0; cases h0), hW⟩))
theorem AnyT.done {ls : Array Bool} {a : Act} {w : World} (hr : Region.ready md ops ls = []) (h : Q .normal a w) : ∀ f, AnyT P md ops Q S k f ls a w
 | 0 => ⟨hr, h⟩
 | _ + 1 => ⟨fun _ => h, by rw [hr]; simp⟩
end
theorem AnyT.tk {P : Program} {ops : Array Oper} {Q : Exit → Act → World → Prop} {md : Region.Mode} {S : World → Prop} {k : Nat} (i : Nat) {oi : Oper} (v : Value) {f : Nat} {ls : Array Bool} {a : Act} {w : World} (hi : ops[i]? = some oi)
 (hy : YieldsIf P ops S oi v a) (hS : S w) (h : AnyT P md ops Q S k f (ls.setIfInBounds i true) (a.put oi.dst v) w) (hs : Region.noSelect ops = true := by kernel_rfl) (hf : Region.free md ops ls i = true := by kernel_rfl) (hr : (Region.ready md ops ls).contains i = true := by kernel_rfl)
 (hk : (waitsFor md ops k i && !(k == i) && !(ls.getD k false)) = true := by kernel_rfl) (hQ : ∀ c a w, Q (.panic c) (a.put oi.dst v) w → Q (.panic c) a w := by exact fun _ _ _ h => h) : AnyT P md ops Q S k (f + 1) ls a w := AnyT.take (i := i) (v := v) hi hs hf hr hk hQ hy hS h
theorem AnyT.tkp {P : Program} {ops : Array Oper} {Q : Exit → Act → World → Prop} {md : Region.Mode} {S : World → Prop} {k : Nat} (i : Nat) {oi : Oper} (v : Value) {f : Nat} {ls : Array Bool} {a : Act} {w : World} (hi : ops[i]? = some oi)
 (hS : S w) (h : AnyT P md ops Q S k f (ls.setIfInBounds i true) (a.put oi.dst v) w) (h1 : Region.wanted oi (yielded ops a.tmps) = true := by rfl) (h2 : ∀ w, S w → (execOp a.eval oi).run P w = .ok (.value v) w := by intro w hSw; go_simp) (hs : Region.noSelect ops = true := by kernel_rfl) (hf : Region.free md ops ls i = true := by kernel_rfl) (hr : (Region.ready md ops ls).contains i = true := by kernel_rfl)
 (hk : (waitsFor md ops k i && !(k == i) && !(ls.getD k false)) = true := by kernel_rfl) (hQ : ∀ c a w, Q (.panic c) (a.put oi.dst v) w → Q (.panic c) a w := by exact fun _ _ _ h => h) : AnyT P md ops Q S k (f + 1) ls a w := AnyT.take (i := i) (v := v) hi hs hf hr hk hQ (.inl ⟨h1, h2⟩) hS h
end
end Go.Proofs.YtieglgahfeecbaaGreatDoor
