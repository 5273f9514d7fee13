/- hist: the states that may come behind one: what is no call's begin, and not told: walked. (printed by gen_hs10.py) -/
import Derived.Test.YtieglgahfeecbaaGreatDoorP8
set_option maxHeartbeats 64000000
set_option maxRecDepth 100000
namespace Go.Proofs.YtieglgahfeecbaaGreatDoor
open Go.RowKit Go.Sort
attribute [local go_sem ↓] Go.wp_at_zero Go.wp_at_succ
theorem hWays_untold (c : Cfg) (gF : Nat) (NA : Option Addr) (nc mb : Nat) (NS : List Nte) (PS : List NtP) (s : Str) (p : StP) (t : Nat) (w : World) (hok : ObjOk c) (hc : CfgIn w c) (hF : Blk w gF 51 (srchCells c NA NS.length nc mb))
  (hN : NtsAt w NA NS PS) (hs : StAt w s p) (hat : p.at_ < NS.length) (hth : (NS.getD p.at_ Nte.none).thread = (t : Int)) (ht : t < s.ln) (hk1 : ¬ (NS.getD p.at_ Nte.none).kind = 1)
  (hap : (p.l.getD t OpP.none).applied = true) (htl : tellsB c p.rec_ (PS.getD p.at_ NtP.none) = false) :
  Calls Tryz.prog 36 #[.pointer (some ⟨gF, 0, none⟩), strV s] w (RetSts (waysS c PS p) w) := by
 obtain ⟨L, hL, hLR, hLk⟩ := hs.l
 obtain ⟨cs, hcs, hcl, hps⟩ := hN.is_ p.at_ hat
 obtain ⟨bN, oN, hNA, hbN, hcN⟩ := hN.rd.at_ (by rw [rows_length]; simp only [Cellful.s]; omega)
 have hxc := note_cells (k := p.at_) (x := NS.getD p.at_ Nte.none) hcN hat rfl
 obtain ⟨bL, oL, hLA, hbL, hcL⟩ := hLR.at_ (by rw [rows_length]; simp only [Cellful.s]; omega)
 have hyc := opr_cells (k := t) (x := L.getD t Opr.none) hcL (by rw [hL]; exact ht) rfl
 have hyo := hLk t ht
 have HCLL := Zd hcL
 clear hcN hcL
 generalize hx : NS.getD p.at_ Nte.none = x at *
 generalize hy : L.getD t Opr.none = y at *
 have HYO := Zd hyo
 have hpth : (x.p cs).thread.toNat = t := by show x.thread.toNat = t; omega
 have hpk : ¬ (x.p cs).kind = 1 := hk1
 have HV : Hid (waysS c PS p = [] ++ effK c p p.l.length) := Zd (by
  unfold waysS
  rw [hps] at htl
  simp only [hps]
  rw [if_neg hpk, hpth, if_neg (by rw [htl]; simp), if_neg (by rw [hap]; simp)])
 rw [hs.ln] at HV
 rw [hps] at htl
 generalize waysS c PS p = R at *
 have HFT := Zd (fun W (hW : Below w.heap.size w W) => hFits_any c gF NA NS.length nc mb s x cs p.rec_ W hok (hc.below hW) (hF.below hW hF.lt) (hs.rd.below hW) hs.rn (by rw [hs.rn]; exact hs.rb) hs.big (by omega) (by have := hs.lb; omega))
 have HNO := Zd (fun W => hNone_any x W)
 have HST := Zd hs
 have HLL := Zd hL
 have HLK := Zd hLk
 have HLR := Zd hLR
 have HOK := Zd hok
 have HCI := Zd hc
 have HFB := Zd hF
 have HAT := Zd hs.at_
 have hsl := hs.lb
 have hnf := hN.few
 have e1 : (x.kind == 1) = false := by simp [hk1]
 have hFN : w.cell? ⟨gF, 11, none⟩ = some (.slice NA NS.length nc) := hF.cell rfl
 have HFL := Zd hF.lt
 clear hs hN hps hcs hcl hLk hLR hyo hL hk1 hF hx hok hc hpk hpth
 obtain ⟨at_, RA, rn, rc, LA, ln, lc⟩ := s
 simp only at hLA HLL HLK HLR HAT ht hsl hnf HFT
 subst hLA hNA
 have HAE : Hid (at_ = (p.at_ : Int)) := Zd HAT.out
 clear HAT
 obtain rfl := HAE.out
 clear HAE
 generalize hpa : p.at_ = pa at *
 have HPA := Zd hpa
 clear hpa
 generalize hnl : NS.length = nn at *
 have HNL := Zd hnl
 clear hnl
 have q0 : (0 : Int) <= (pa : Int) := by omega
 have q1 : (pa : Int) < (nn : Int) := by omega
 have q2 : (0 : Int) <= (t : Int) := by omega
 have q3 : (t : Int) < (ln : Int) := by omega
 obtain ⟨c0, c1, c2, c3, c4, c5, c6, c7, c8, c9, c10, c11, c12⟩ := hxc
 obtain ⟨d0, d1, d2, d3, d4, d5, d6, d7⟩ := hyc
 rw [hth] at c1
 unfold strV nteV at HFT
 unfold nteV at HNO
 simp only [hth] at HFT HNO
 have nb1 := Nat.ne_of_lt hbN
 have nb2 := Nat.ne_of_lt hbL
 have nb3 := Nat.ne_of_lt HFL.out
 have HY0 := Zd (Blk.new w 57 [.int .i64 pa, .slice RA rn rc, .slice (some ⟨bL, oL, none⟩) ln lc])
 have HB0 := Zd ((Below.refl w.heap.size w).alloc (Nat.le_refl _) (.cells #[.int .i64 pa, .slice RA rn rc, .slice (some ⟨bL, oL, none⟩) ln lc] 57))
 unfold strV
 simp only
 go_enter Tryz.func36, Tryz.ntmps36
 go_wp2_with fail
 go_region_held3 (fun w' => w'.cell? ⟨gF, 11, none⟩ = some (.slice (some ⟨bN, oN, none⟩) nn nc) /\ w'.cell? ⟨w.heap.size, 0, none⟩ = some (.int .i64 pa) /\ w'.cell? ⟨bN, oN + pa * 13, none⟩ = some (.int .i64 x.kind) /\ w'.cell? ⟨bN, oN + pa * 13 + 1, none⟩ = some (.int .i64 t) /\ w'.cell? ⟨bN, oN + pa * 13 + 2, none⟩ = some (.int .i64 x.seq) /\ w'.cell? ⟨bN, oN + pa * 13 + 3, none⟩ = some (.int .i64 x.time) /\ w'.cell? ⟨bN, oN + pa * 13 + 4, none⟩ = some (.int .i64 x.rkind) /\ w'.cell? ⟨bN, oN + pa * 13 + 5, none⟩ = some (.int .i64 x.rarg) /\ w'.cell? ⟨bN, oN + pa * 13 + 6, none⟩ = some (.int .i64 x.rvalue) /\ w'.cell? ⟨bN, oN + pa * 13 + 7, none⟩ = some (.bool x.rdef) /\ w'.cell? ⟨bN, oN + pa * 13 + 8, none⟩ = some (.slice x.ca x.cl x.cc) /\ w'.cell? ⟨bN, oN + pa * 13 + 9, none⟩ = some (.int .i64 x.qseq) /\ w'.cell? ⟨bN, oN + pa * 13 + 10, none⟩ = some (.int .i64 x.qcase) /\ w'.cell? ⟨bN, oN + pa * 13 + 11, none⟩ = some (.int .i64 x.qcode) /\ w'.cell? ⟨bN, oN + pa * 13 + 12, none⟩ = some (.int .i64 x.qvalue)) (go_keep) (fail)
 have HN1 := Zd (Blk.drew (Blk.new (w.alloc (.cells #[.int .i64 pa, .slice RA rn rc, .slice (some ⟨bL, oL, none⟩) ln lc] 57)) 44 [.int .i64 x.kind, .int .i64 t, .int .i64 x.seq, .int .i64 x.time, .int .i64 x.rkind, .int .i64 x.rarg, .int .i64 x.rvalue, .bool x.rdef, .slice x.ca x.cl x.cc, .int .i64 x.qseq, .int .i64 x.qcase, .int .i64 x.qcode, .int .i64 x.qvalue]))
 have HY1 := Zd (Blk.drew (HY0.out.alloc (.cells #[.int .i64 x.kind, .int .i64 t, .int .i64 x.seq, .int .i64 x.time, .int .i64 x.rkind, .int .i64 x.rarg, .int .i64 x.rvalue, .bool x.rdef, .slice x.ca x.cl x.cc, .int .i64 x.qseq, .int .i64 x.qcase, .int .i64 x.qcode, .int .i64 x.qvalue] 44)))
 have HB1 := Zd ((HB0.out.alloc HB0.out.size (.cells #[.int .i64 x.kind, .int .i64 t, .int .i64 x.seq, .int .i64 x.time, .int .i64 x.rkind, .int .i64 x.rarg, .int .i64 x.rvalue, .bool x.rdef, .slice x.ca x.cl x.cc, .int .i64 x.qseq, .int .i64 x.qcase, .int .i64 x.qcode, .int .i64 x.qvalue] 44)).drew)
 have HN1' : Hid ((w.alloc (.cells #[.int .i64 pa, .slice RA rn rc, .slice (some ⟨bL, oL, none⟩) ln lc] 57)).heap.size = w.heap.size + 1) := Zd (by simp)
 rw [HN1'.out] at HN1
 clear c0 c1 c2 c3 c4 c5 c6 c7 c8 c9 c10 c11 c12 hFN HY0 HB0 HN1'
 go_step
 generalize ((w.alloc (.cells #[.int .i64 pa, .slice RA rn rc, .slice (some ⟨bL, oL, none⟩) ln lc] 57)).alloc (.cells #[.int .i64 x.kind, .int .i64 t, .int .i64 x.seq, .int .i64 x.time, .int .i64 x.rkind, .int .i64 x.rarg, .int .i64 x.rvalue, .bool x.rdef, .slice x.ca x.cl x.cc, .int .i64 x.qseq, .int .i64 x.qcase, .int .i64 x.qcode, .int .i64 x.qvalue] 44)).drew = W1 at *
 have y0 := HY1.out.cell (i := 0) rfl
 have y1 := HY1.out.cell (i := 1) rfl
 have y2 := HY1.out.cell (i := 2) rfl
 have v0 := HN1.out.cell (i := 0) rfl
 have v1 := HN1.out.cell (i := 1) rfl
 have v2 := HN1.out.cell (i := 2) rfl
 have v4 := HN1.out.cell (i := 4) rfl
 have v5 := HN1.out.cell (i := 5) rfl
 have v6 := HN1.out.cell (i := 6) rfl
 have v7 := HN1.out.cell (i := 7) rfl
 have v8 := HN1.out.cell (i := 8) rfl
 have hbc := fun o => HB1.out.cell (p := ⟨bL, o, none⟩) hbL
 have hl0 : w.heap.size < W1.heap.size := HY1.out.lt
 have hl1 : w.heap.size + 1 < W1.heap.size := HN1.out.lt
 have hl2 : bL < W1.heap.size := Nat.lt_of_lt_of_le hbL HB1.out.size
 have HB2 := Zd (fun o o' => HB1.out.trans ((below_two W1 o o').mono HB1.out.size))
 rw [htl] at HFT
 have hyap : y.applied = true := HYO.out.2.2.1.trans hap
 rw [hyap] at d7
 have HYAP := Zd hyap
 clear hyap
 have hv3 := HN1.out.cell (i := 3) rfl
 have hv9 := HN1.out.cell (i := 9) rfl
 have hv10 := HN1.out.cell (i := 10) rfl
 have hv11 := HN1.out.cell (i := 11) rfl
 have hv12 := HN1.out.cell (i := 12) rfl
 clear hap htl
 generalize (decide (x.kind = 3) && (decide (x.qcode = 6) || decide (x.qcode = 7))) = nb at *
 go_step
 go_upto_region 11 with (first
  | (go_at_call 70
     refine (HFT.out _ (HB2.out _ _)).mono ?_
     rintro er w2 ⟨rfl, hb2⟩
     have HXB := Zd (((Blk.new W1 63 [.int .i64 y.q.kind, .int .i64 y.q.arg, .int .i64 y.q.value, .bool y.q.dflt, .slice y.q.A y.q.n y.q.c, .int .i64 y.seq, .bool y.on, .bool true]).alloc (.cells #[.int .i64 ((pa : Int) + 1), .slice RA rn rc, .slice (some ⟨bL, oL, none⟩) ln lc] 57)).below hb2 (by simp; omega))
     have HNB := Zd ((blk_new (w := W1.alloc (.cells #[.int .i64 y.q.kind, .int .i64 y.q.arg, .int .i64 y.q.value, .bool y.q.dflt, .slice y.q.A y.q.n y.q.c, .int .i64 y.seq, .bool y.on, .bool true] 63)) (g := W1.heap.size + 1) (cs := [.int .i64 ((pa : Int) + 1), .slice RA rn rc, .slice (some ⟨bL, oL, none⟩) ln lc]) (t := 57) (by simp)).below hb2 (by simp))
     have HW2 := Zd ((below_two W1 _ _).trans (hb2.mono (below_two W1 _ _).size))
     have HS2 := Zd (HY1.out.below HW2.out HY1.out.lt)
     have HO2 := Zd (HN1.out.below HW2.out HN1.out.lt)
     clear hb2
     clear y0 y1 y2 v0 v1 v2 v4 v5 v6 v7 v8
     have x0 := HXB.out.cell (i := 0) rfl
     have x1 := HXB.out.cell (i := 1) rfl
     have x2 := HXB.out.cell (i := 2) rfl
     have x3 := HXB.out.cell (i := 3) rfl
     have x4 := HXB.out.cell (i := 4) rfl
     have x5 := HXB.out.cell (i := 5) rfl
     have x6 := HXB.out.cell (i := 6) rfl
     have zx6 := HXB.out.frozen 6
     have x7 := HXB.out.cell (i := 7) rfl
     have m0 := HNB.out.cell (i := 0) rfl
     have m1 := HNB.out.cell (i := 1) rfl
     have m2 := HNB.out.cell (i := 2) rfl
     have y0 := HS2.out.cell (i := 0) rfl
     have y1 := HS2.out.cell (i := 1) rfl
     have y2 := HS2.out.cell (i := 2) rfl
     have v0 := HO2.out.cell (i := 0) rfl
     have v1 := HO2.out.cell (i := 1) rfl
     have v2 := HO2.out.cell (i := 2) rfl
     have v3 := HO2.out.cell (i := 3) rfl
     have v4 := HO2.out.cell (i := 4) rfl
     have v5 := HO2.out.cell (i := 5) rfl
     have v6 := HO2.out.cell (i := 6) rfl
     have v7 := HO2.out.cell (i := 7) rfl
     have v8 := HO2.out.cell (i := 8) rfl
     have v9 := HO2.out.cell (i := 9) rfl
     have v10 := HO2.out.cell (i := 10) rfl
     have v11 := HO2.out.cell (i := 11) rfl
     have v12 := HO2.out.cell (i := 12) rfl))
 go_cut [68] (fun b wx => b = .bool false /\ Below w2.heap.size w2 wx)
 case first =>
  go_wp2_with (first
   | (go_at_call 71
      refine (HNO.out _).mono ?_
      rintro er w3 ⟨rfl, hb2⟩
      have HB3 := Zd hb2
      have HXB' := Zd (HXB.out.below hb2 HXB.out.lt)
      have HNB' := Zd (HNB.out.below hb2 HNB.out.lt)
      have HW2' := Zd (btr HW2.out hb2)
      clear HXB HNB HW2
      have HXB := HXB'
      have HNB := HNB'
      have HW2 := HW2'
      clear HXB' HNB' HW2'
      have HS2 := Zd (HY1.out.below HW2.out HY1.out.lt)
      have HO2 := Zd (HN1.out.below HW2.out HN1.out.lt)
      clear hb2
      clear x0 x1 x2 x3 x4 x5 x6 zx6 x7 m0 m1 m2 y0 y1 y2 v0 v1 v2 v3 v4 v5 v6 v7 v8 v9 v10 v11 v12
      have x0 := HXB.out.cell (i := 0) rfl
      have x1 := HXB.out.cell (i := 1) rfl
      have x2 := HXB.out.cell (i := 2) rfl
      have x3 := HXB.out.cell (i := 3) rfl
      have x4 := HXB.out.cell (i := 4) rfl
      have x5 := HXB.out.cell (i := 5) rfl
      have x6 := HXB.out.cell (i := 6) rfl
      have zx6 := HXB.out.frozen 6
      have x7 := HXB.out.cell (i := 7) rfl
      have m0 := HNB.out.cell (i := 0) rfl
      have m1 := HNB.out.cell (i := 1) rfl
      have m2 := HNB.out.cell (i := 2) rfl
      have y0 := HS2.out.cell (i := 0) rfl
      have y1 := HS2.out.cell (i := 1) rfl
      have y2 := HS2.out.cell (i := 2) rfl
      have v0 := HO2.out.cell (i := 0) rfl
      have v1 := HO2.out.cell (i := 1) rfl
      have v2 := HO2.out.cell (i := 2) rfl
      have v3 := HO2.out.cell (i := 3) rfl
      have v4 := HO2.out.cell (i := 4) rfl
      have v5 := HO2.out.cell (i := 5) rfl
      have v6 := HO2.out.cell (i := 6) rfl
      have v7 := HO2.out.cell (i := 7) rfl
      have v8 := HO2.out.cell (i := 8) rfl
      have v9 := HO2.out.cell (i := 9) rfl
      have v10 := HO2.out.cell (i := 10) rfl
      have v11 := HO2.out.cell (i := 11) rfl
      have v12 := HO2.out.cell (i := 12) rfl))
  all_goals
   go_meet
   exact ⟨rfl, HB3.out⟩
 case rest =>
 obtain ⟨rfl, hb3⟩ := hcut
 have HTOT := Zd (btr HW2.out hb3)
 have HS3 := Zd (HS2.out.below hb3 HS2.out.lt)
 clear x0 x1 x2 x3 x4 x5 x6 zx6 x7 m0 m1 m2 y0 y1 y2 v0 v1 v2 v3 v4 v5 v6 v7 v8 v9 v10 v11 v12 HS2 HW2 hb3 HNO HFT d0 d1 d2 d3 d4 d5 d6 d7 HXB HNB HO2
 have HSTS := Zd (StsIn.nil w W1 wc)
 have HPL : Hid (([] : List StP).length <= 1) := Zd (by simp)
 have y0 := HS3.out.cell (i := 0) rfl
 have y1 := HS3.out.cell (i := 1) rfl
 have y2 := HS3.out.cell (i := 2) rfl
 go_upto_region 13 with fail
 go_wp2_with fail
 go_loopg [8, 82] ln (fun gg out i wr => ∃ (k : Nat) (A1 : Option Addr) (c1 : Nat) (S : List Str), k <= ln /\ gg = ln - k /\ i = .int .i64 k /\ out = .slice A1 S.length c1 /\ StsIn w W1 wr A1 c1 S (([] : List StP) ++ effK c p k) /\ Below W1.heap.size W1 wr)
 case atStart => exact ⟨0, none, 0, [], Nat.zero_le _, rfl, rfl, rfl, by unfold effK; rw [List.append_nil]; exact HSTS.out, HTOT.out⟩
 case round =>
  obtain ⟨k, A1, c1, S, hk, hg, rfl, rfl, hst, hbr⟩ := hrel
  have HG := Zd hg
  have HS := Zd hst
  have HBR := Zd hbr
  clear hg hst hbr
  by_cases hlt : k < ln
  . have HEF := Zd (show effK c p (k + 1) = effK c p k ++ (if (p.l.getD k OpP.none).on = true /\ (p.l.getD k OpP.none).applied = false /\ 0 < (p.l.getD k OpP.none).seq then [⟨p.at_, applyO c p.rec_ k (p.l.getD k OpP.none).seq (p.l.getD k OpP.none).req, p.l.set k ⟨(p.l.getD k OpP.none).on, true, (p.l.getD k OpP.none).seq, (p.l.getD k OpP.none).req⟩⟩] else []) from rfl)
    have hyk := HLK.out k hlt
    have hrc := opr_cells (w := wr) (k := k) (fun j v h => (HBR.out.cell (p := ⟨bL, oL + j, none⟩) hl2).trans ((HB1.out.cell (p := ⟨bL, oL + j, none⟩) hbL).trans (HCLL.out j v h))) (by rw [HLL.out]; exact hlt) rfl
    have HSL : Hid (S.length <= ln + 1) := Zd (by have h1 := HS.out.len; have h2 := effK_len c p k; rw [List.length_append] at h1; have := HPL.out; omega)
    have hsl2 := HSL.out
    generalize p.l.getD k OpP.none = q at *
    generalize hz : L.getD k Opr.none = z at *
    clear hz
    obtain ⟨⟨xk, xa, xv, xd, xA, xn, xc⟩, xs, xo, xp⟩ := z
    obtain ⟨qo, qp, qs, qr⟩ := q
    obtain ⟨e1', e2', e3', cs2, hcs2, hcl2, e4'⟩ := hyk
    simp only at e1' e2' e3' e4' hrc
    subst e1' e2' e3' e4'
    have HCS2 := Zd hcs2
    have HCL2 := Zd hcl2
    clear hcs2 hcl2
    obtain ⟨r0, r1, r2, r3, r4, r5, r6, r7⟩ := hrc
    have t0 : (0 : Int) <= (k : Int) := by omega
    have t1 : (k : Int) < (ln : Int) := by omega
    by_cases hall : xo = true /\ xp = false /\ 0 < xs
    . obtain ⟨rfl, rfl, hx0⟩ := hall
      have HEG : Hid (effK c p (k + 1) = effK c p k ++ [⟨p.at_, applyO c p.rec_ k xs (Reqr.p ⟨xk, xa, xv, xd, xA, xn, xc⟩ cs2), p.l.set k ⟨true, true, xs, Reqr.p ⟨xk, xa, xv, xd, xA, xn, xc⟩ cs2⟩⟩]) := Zd (by rw [HEF.out, if_pos ⟨rfl, rfl, hx0⟩])
      clear HEF
      have HOX : Hid (OprIs w ⟨⟨xk, xa, xv, xd, xA, xn, xc⟩, xs, true, true⟩ ⟨true, true, xs, Reqr.p ⟨xk, xa, xv, xd, xA, xn, xc⟩ cs2⟩) := Zd ⟨rfl, rfl, rfl, cs2, HCS2.out, HCL2.out, rfl⟩
      have HBG := Zd (HOK.out.big p.rec_ k xs (Reqr.p ⟨xk, xa, xv, xd, xA, xn, xc⟩ cs2) HST.out.big)
      have HRL : Hid ((applyO c p.rec_ k xs (Reqr.p ⟨xk, xa, xv, xd, xA, xn, xc⟩ cs2)).length = rn) := Zd (applyO_len.trans HST.out.rn)
      have HAP := Zd (fun W (hb : Below w.heap.size w W) => HOK.out.apply RA rc p.rec_ k xs ⟨xk, xa, xv, xd, xA, xn, xc⟩ cs2 W (HCI.out.below hb) (HST.out.rd.below hb) (by rw [HST.out.rn]; exact HST.out.rc) (by rw [HST.out.rn]; exact HST.out.rb) HST.out.big (HCS2.out.below hb) HCL2.out)
      rw [HST.out.rn] at HAP
      generalize applyO c p.rec_ k xs (Reqr.p ⟨xk, xa, xv, xd, xA, xn, xc⟩ cs2) = rec' at *
      have HWT := Zd (fun W (hW : Below w.heap.size w W) => hWith_any ⟨(pa : Int), RA, rn, rc, some ⟨bL, oL, none⟩, ln, lc⟩ L k ⟨⟨xk, xa, xv, xd, xA, xn, xc⟩, xs, true, true⟩ W HLL.out hsl hlt (HLR.out.below hW))
      unfold strV oprV at HWT
      unfold cfgV reqV RetWords RetMore at HAP
      simp only at HWT
      simp only [HRL.out] at HAP
      have HBQ := Zd (HB1.out.trans (HBR.out.mono HB1.out.size))
      have HSR := Zd (HY1.out.below HBR.out HY1.out.lt)
      have HSRL : Hid (w.heap.size < wr.heap.size) := Zd HSR.out.lt
      have HFR := Zd ((srch_cfg HFB.out).below HBQ.out)
      have HFRL : Hid (gF < wr.heap.size) := Zd HFR.out.1
      have h8 := HSRL.out
      have h9 := HFRL.out
      clear y0 y1 y2
      have y0 := HSR.out.cell (i := 0) rfl
      have y1 := HSR.out.cell (i := 1) rfl
      have y2 := HSR.out.cell (i := 2) rfl
      have HBZ := Zd ((Below.refl wr.heap.size wr).alloc (Nat.le_refl _) (.cells #[.int .i64 xk, .int .i64 xa, .int .i64 xv, .bool xd, .slice xA xn xc, .int .i64 xs, .bool true, .bool true] 63))
      go_upto_region 19 with (have HBZ1 := Zd (HBQ.out.trans (HBZ.out.mono HBQ.out.size)); refine (HWT.out _ HBZ1.out).mono ?_; rintro er w3 ⟨A2, c2, rfl, how3, hb3⟩; have HO3 := Zd how3; have HW3 := Zd hb3; unfold strV; simp only; clear how3 hb3)
      have HB4 := Zd (HBZ.out.trans (HW3.out.mono HBZ.out.size))
      have HM5 := Zd (Blk.new w3 57 [.int .i64 (pa : Int), .slice RA rn rc, .slice A2 ln c2])
      have HB5 := Zd (HB4.out.alloc HB4.out.size (.cells #[.int .i64 (pa : Int), .slice RA rn rc, .slice A2 ln c2] 57))
      have HO5 := Zd (HO3.out.alloc (.cells #[.int .i64 (pa : Int), .slice RA rn rc, .slice A2 ln c2] 57))
      have HZ5 := Zd (((Blk.new wr 63 [.int .i64 xk, .int .i64 xa, .int .i64 xv, .bool xd, .slice xA xn xc, .int .i64 xs, .bool true, .bool true]).below HW3.out (by simp)).alloc (.cells #[.int .i64 (pa : Int), .slice RA rn rc, .slice A2 ln c2] 57))
      have HLE : Hid (wr.heap.size <= w3.heap.size /\ w3.heap.size < (w3.alloc (.cells #[.int .i64 (pa : Int), .slice RA rn rc, .slice A2 ln c2] 57)).heap.size) := Zd ⟨HB4.out.size, by simp⟩
      clear r0 r1 r2 r3 r4 r5 r6 r7 y0 y1 y2
      generalize (w3.alloc (.cells #[.int .i64 (pa : Int), .slice RA rn rc, .slice A2 ln c2] 57)) = W5 at *
      have HF5 := Zd (HFR.out.below HB5.out)
      have HS5 := Zd (HSR.out.below HB5.out HSR.out.lt)
      have HBE := Zd (HBQ.out.trans (HB5.out.mono HBQ.out.size))
      obtain ⟨f0, f1, f2, f3, f4, f5, f6, f7, f8, f9, f10⟩ := HF5.out.all
      have y1 := HS5.out.cell (i := 1) rfl
      have z0 := HZ5.out.cell (i := 0) rfl
      have z1 := HZ5.out.cell (i := 1) rfl
      have z2 := HZ5.out.cell (i := 2) rfl
      have z3 := HZ5.out.cell (i := 3) rfl
      have z4 := HZ5.out.cell (i := 4) rfl
      have z5 := HZ5.out.cell (i := 5) rfl
      have g5 := HF5.out.1
      have s5 := HS5.out.lt
      have b5 := HZ5.out.lt
      have n5a : gF ≠ w3.heap.size := by have := HLE.out; omega
      have n5b : w.heap.size ≠ w3.heap.size := by have := HLE.out; omega
      have n5c : wr.heap.size ≠ w3.heap.size := by have := HB4.out; have h := HW3.out.size; simp at h; omega
      have n5a' := n5a.symm
      have n5b' := n5b.symm
      have n5c' := n5c.symm
      go_region_held3 (fun w' => w'.cell? ⟨gF, 0, none⟩ = some (.int .i64 c.kind) /\ w'.cell? ⟨gF, 1, none⟩ = some (.int .i64 c.threads) /\ w'.cell? ⟨gF, 2, none⟩ = some (.int .i64 c.chans) /\ w'.cell? ⟨gF, 3, none⟩ = some (.int .i64 c.cap) /\ w'.cell? ⟨gF, 4, none⟩ = some (.int .i64 c.nodes) /\ w'.cell? ⟨gF, 5, none⟩ = some (.int .i64 c.retire) /\ w'.cell? ⟨gF, 6, none⟩ = some (.int .i64 c.patience) /\ w'.cell? ⟨gF, 7, none⟩ = some (.int .i64 c.tags) /\ w'.cell? ⟨gF, 8, none⟩ = some (.int .i64 c.seqs) /\ w'.cell? ⟨gF, 9, none⟩ = some (.int .i64 c.gens) /\ w'.cell? ⟨gF, 10, none⟩ = some (.slice c.sa c.start.length c.sc) /\ w'.cell? ⟨w.heap.size, 1, none⟩ = some (.slice RA rn rc) /\ w'.cell? ⟨wr.heap.size, 0, none⟩ = some (.int .i64 xk) /\ w'.cell? ⟨wr.heap.size, 1, none⟩ = some (.int .i64 xa) /\ w'.cell? ⟨wr.heap.size, 2, none⟩ = some (.int .i64 xv) /\ w'.cell? ⟨wr.heap.size, 3, none⟩ = some (.bool xd) /\ w'.cell? ⟨wr.heap.size, 4, none⟩ = some (.slice xA xn xc) /\ w'.cell? ⟨wr.heap.size, 5, none⟩ = some (.int .i64 xs)) (first | go_keep | (simp only [hk1, hk2, hk3]; go_keep)) (first
       | (go_at_call 72; refine (HAP.out _ ?_).mono ?_; (first | exact HBE.out | exact HBE.out.drew); rintro er w6 ⟨R3, rc3, rfl, how6, hb6'⟩; have hb6 : Below W5.heap.size W5 w6 := ⟨hb6'.os, hb6'.tape, hb6'.output, hb6'.size, hb6'.block⟩; have hk1 := fun o => hb6.cell (p := ⟨gF, o, none⟩) g5; have hk2 := fun o => hb6.cell (p := ⟨w.heap.size, o, none⟩) s5; have hk3 := fun o => hb6.cell (p := ⟨wr.heap.size, o, none⟩) b5; have HM6 := Zd (HM5.out.below hb6 HM5.out.lt); have m0 := HM6.out.cell (i := 0) rfl; have m1 := HM6.out.cell (i := 1) rfl; have zm1 := HM6.out.frozen 1; have m2 := HM6.out.cell (i := 2) rfl))
      have HB6 := Zd ((btr HB5.out hb6).setCell (p := ⟨w3.heap.size, 1, none⟩) HLE.out.1 (.slice R3 rn rc3))
      have HR6 := Zd (own_ty (own_lower how6 (b := w.heap.size) (Nat.le_trans HBQ.out.size HB5.out.size)) HM6.out (by decide) 1 (.slice R3 rn rc3))
      have HO6 := Zd (own_ty (own_lower (own_below HO5.out hb6) (b := w.heap.size) (Nat.le_trans HBQ.out.size HBZ.out.size)) HM6.out (by decide) 1 (.slice R3 rn rc3))
      have HM7 := Zd (HM6.out.set_ 1 (.slice R3 rn rc3))
      clear hk1 hk2 hk3 f0 f1 f2 f3 f4 f5 f6 f7 f8 f9 f10 y1 z0 z1 z2 z3 z4 z5 m0 m1 zm1 m2 how6 hb6 hb6'
      generalize w6.setCell ⟨w3.heap.size, 1, none⟩ (.slice R3 rn rc3) = W6 at *
      have m0 := HM7.out.cell (i := 0) rfl
      have m1 := HM7.out.cell (i := 1) rfl
      have m2 := HM7.out.cell (i := 2) rfl
      go_wp2_with (first
       | (at_builtin
          refine wpList_app rfl (.tmp 117) (.tmp 119) 80 57 rfl W1.heap.size (strV Str.none) 3 56 Tryz.underlying80 CloneSt_info rfl (by decide) A1 S.length c1 (rows S) rfl ((HS.out.below HB6.out).row.alloc _) (some ⟨W6.heap.size, 0, none⟩) 1 1 (rows [(⟨(pa : Int), R3, rn, rc3, A2, ln, c2⟩ : Str)]) rfl (by simp) rfl (blk_new rfl).rd (rows_one _) (S.length + 1) rfl (rows (S ++ [(⟨(pa : Int), R3, rn, rc3, A2, ln, c2⟩ : Str)])) (rows_append _ _).symm (by unfold maxLen; omega) (by omega) (by have := HBR.out.size; have := HB6.out.size; rw [World.size_alloc]; omega) ?_
          intro A3 c3 w8 hown3 hg3 hb8))
      go_roundg (ln - (k + 1))
      case measure => rw [HG.out]; omega
      case rel =>
       have hal := (Below.refl W6.heap.size W6).alloc (Nat.le_refl _) (.cells #[.int .i64 (pa : Int), .slice R3 rn rc3, .slice A2 ln c2] 57)
       have hnew := ((HST.out.eff HLL.out HLK.out hlt HOX.out HRL.out HST.out.rb HBG.out HR6.out HO6.out).below hal)
       have hb7 := HB6.out.trans (hal.mono HB6.out.size)
       refine ⟨k + 1, A3, c3, S ++ [⟨(pa : Int), R3, rn, rc3, A2, ln, c2⟩], by omega, rfl, by go_num, by rw [List.length_append]; rfl, ?_, (btr HBR.out hb7).trans hb8⟩
       rw [HEG.out, <- List.append_assoc]
       exact (HS.out.below hb7).put hnew hown3 hg3
    . have HEG : Hid (effK c p (k + 1) = effK c p k) := Zd (by rw [HEF.out, if_neg hall, List.append_nil])
      clear HEF
      have HNR : Hid (∀ ob, StsIn w W1 (wr.alloc ob) A1 c1 S (([] : List StP) ++ effK c p (k + 1)) /\ Below W1.heap.size W1 (wr.alloc ob)) := Zd (fun ob => ⟨by rw [HEG.out]; exact HS.out.below ((Below.refl _ _).alloc (Nat.le_refl _) _), HBR.out.alloc HBR.out.size _⟩)
      cases xo
      . go_wp2_with fail
        go_roundg (ln - (k + 1))
        case measure => rw [HG.out]; omega
        case rel => exact ⟨k + 1, A1, c1, S, by omega, rfl, by go_num, rfl, HNR.out _⟩
      . cases xp
        . have hx0 : ¬ 0 < xs := fun h => hall ⟨rfl, rfl, h⟩
          clear hall
          go_wp2_with fail
          go_roundg (ln - (k + 1))
          case measure => rw [HG.out]; omega
          case rel => exact ⟨k + 1, A1, c1, S, by omega, rfl, by go_num, rfl, HNR.out _⟩
        . clear hall
          go_wp2_with fail
          go_roundg (ln - (k + 1))
          case measure => rw [HG.out]; omega
          case rel => exact ⟨k + 1, A1, c1, S, by omega, rfl, by go_num, rfl, HNR.out _⟩
  . obtain rfl : k = ln := by omega
    go_wp2_with fail
    go_ret
    rw [HV.out]
    exact HS.out.ret (HB1.out.trans (HBR.out.mono HB1.out.size)) rfl
theorem hWays_open (c : Cfg) (gF : Nat) (NA : Option Addr) (nc mb : Nat) (NS : List Nte) (PS : List NtP) (s : Str) (p : StP) (t : Nat) (w : World) (hok : ObjOk c) (hc : CfgIn w c) (hF : Blk w gF 51 (srchCells c NA NS.length nc mb))
  (hN : NtsAt w NA NS PS) (hs : StAt w s p) (hat : p.at_ < NS.length) (hth : (NS.getD p.at_ Nte.none).thread = (t : Int)) (ht : t < s.ln) (hk1 : ¬ (NS.getD p.at_ Nte.none).kind = 1)
  (hap : (p.l.getD t OpP.none).applied = false) (hnb : noneB (PS.getD p.at_ NtP.none) = false) :
  Calls Tryz.prog 36 #[.pointer (some ⟨gF, 0, none⟩), strV s] w (RetSts (waysS c PS p) w) := by
 obtain ⟨L, hL, hLR, hLk⟩ := hs.l
 obtain ⟨cs, hcs, hcl, hps⟩ := hN.is_ p.at_ hat
 obtain ⟨bN, oN, hNA, hbN, hcN⟩ := hN.rd.at_ (by rw [rows_length]; simp only [Cellful.s]; omega)
 have hxc := note_cells (k := p.at_) (x := NS.getD p.at_ Nte.none) hcN hat rfl
 obtain ⟨bL, oL, hLA, hbL, hcL⟩ := hLR.at_ (by rw [rows_length]; simp only [Cellful.s]; omega)
 have hyc := opr_cells (k := t) (x := L.getD t Opr.none) hcL (by rw [hL]; exact ht) rfl
 have hyo := hLk t ht
 have HCLL := Zd hcL
 clear hcN hcL
 generalize hx : NS.getD p.at_ Nte.none = x at *
 generalize hy : L.getD t Opr.none = y at *
 have HYO := Zd hyo
 have hpth : (x.p cs).thread.toNat = t := by show x.thread.toNat = t; omega
 have hpk : ¬ (x.p cs).kind = 1 := hk1
 rw [hps] at hnb
 have HNB : Hid ((decide (x.kind = 3) && (decide (x.qcode = 6) || decide (x.qcode = 7))) = false) := Zd hnb
 have HV : Hid (waysS c PS p = [] ++ effK c p p.l.length) := Zd (by
  unfold waysS
  simp only [hps]
  rw [if_neg hpk, hpth, if_neg (by rw [hap]; simp), if_neg (by rw [hnb]; simp)])
 rw [hs.ln] at HV
 generalize waysS c PS p = R at *
 have HFT := Zd (fun W (hW : Below w.heap.size w W) => hFits_any c gF NA NS.length nc mb s x cs p.rec_ W hok (hc.below hW) (hF.below hW hF.lt) (hs.rd.below hW) hs.rn (by rw [hs.rn]; exact hs.rb) hs.big (by omega) (by have := hs.lb; omega))
 have HNO := Zd (fun W => hNone_any x W)
 have HST := Zd hs
 have HLL := Zd hL
 have HLK := Zd hLk
 have HLR := Zd hLR
 have HOK := Zd hok
 have HCI := Zd hc
 have HFB := Zd hF
 have HAT := Zd hs.at_
 have hsl := hs.lb
 have hnf := hN.few
 have e1 : (x.kind == 1) = false := by simp [hk1]
 have hFN : w.cell? ⟨gF, 11, none⟩ = some (.slice NA NS.length nc) := hF.cell rfl
 have HFL := Zd hF.lt
 clear hs hN hps hcs hcl hLk hLR hyo hL hk1 hF hx hok hc hpk hpth
 obtain ⟨at_, RA, rn, rc, LA, ln, lc⟩ := s
 simp only at hLA HLL HLK HLR HAT ht hsl hnf HFT
 subst hLA hNA
 have HAE : Hid (at_ = (p.at_ : Int)) := Zd HAT.out
 clear HAT
 obtain rfl := HAE.out
 clear HAE
 generalize hpa : p.at_ = pa at *
 have HPA := Zd hpa
 clear hpa
 generalize hnl : NS.length = nn at *
 have HNL := Zd hnl
 clear hnl
 have q0 : (0 : Int) <= (pa : Int) := by omega
 have q1 : (pa : Int) < (nn : Int) := by omega
 have q2 : (0 : Int) <= (t : Int) := by omega
 have q3 : (t : Int) < (ln : Int) := by omega
 obtain ⟨c0, c1, c2, c3, c4, c5, c6, c7, c8, c9, c10, c11, c12⟩ := hxc
 obtain ⟨d0, d1, d2, d3, d4, d5, d6, d7⟩ := hyc
 rw [hth] at c1
 unfold strV nteV at HFT
 unfold nteV at HNO
 simp only [hth] at HFT HNO
 have nb1 := Nat.ne_of_lt hbN
 have nb2 := Nat.ne_of_lt hbL
 have nb3 := Nat.ne_of_lt HFL.out
 have HY0 := Zd (Blk.new w 57 [.int .i64 pa, .slice RA rn rc, .slice (some ⟨bL, oL, none⟩) ln lc])
 have HB0 := Zd ((Below.refl w.heap.size w).alloc (Nat.le_refl _) (.cells #[.int .i64 pa, .slice RA rn rc, .slice (some ⟨bL, oL, none⟩) ln lc] 57))
 unfold strV
 simp only
 go_enter Tryz.func36, Tryz.ntmps36
 go_wp2_with fail
 go_region_held3 (fun w' => w'.cell? ⟨gF, 11, none⟩ = some (.slice (some ⟨bN, oN, none⟩) nn nc) /\ w'.cell? ⟨w.heap.size, 0, none⟩ = some (.int .i64 pa) /\ w'.cell? ⟨bN, oN + pa * 13, none⟩ = some (.int .i64 x.kind) /\ w'.cell? ⟨bN, oN + pa * 13 + 1, none⟩ = some (.int .i64 t) /\ w'.cell? ⟨bN, oN + pa * 13 + 2, none⟩ = some (.int .i64 x.seq) /\ w'.cell? ⟨bN, oN + pa * 13 + 3, none⟩ = some (.int .i64 x.time) /\ w'.cell? ⟨bN, oN + pa * 13 + 4, none⟩ = some (.int .i64 x.rkind) /\ w'.cell? ⟨bN, oN + pa * 13 + 5, none⟩ = some (.int .i64 x.rarg) /\ w'.cell? ⟨bN, oN + pa * 13 + 6, none⟩ = some (.int .i64 x.rvalue) /\ w'.cell? ⟨bN, oN + pa * 13 + 7, none⟩ = some (.bool x.rdef) /\ w'.cell? ⟨bN, oN + pa * 13 + 8, none⟩ = some (.slice x.ca x.cl x.cc) /\ w'.cell? ⟨bN, oN + pa * 13 + 9, none⟩ = some (.int .i64 x.qseq) /\ w'.cell? ⟨bN, oN + pa * 13 + 10, none⟩ = some (.int .i64 x.qcase) /\ w'.cell? ⟨bN, oN + pa * 13 + 11, none⟩ = some (.int .i64 x.qcode) /\ w'.cell? ⟨bN, oN + pa * 13 + 12, none⟩ = some (.int .i64 x.qvalue)) (go_keep) (fail)
 have HN1 := Zd (Blk.drew (Blk.new (w.alloc (.cells #[.int .i64 pa, .slice RA rn rc, .slice (some ⟨bL, oL, none⟩) ln lc] 57)) 44 [.int .i64 x.kind, .int .i64 t, .int .i64 x.seq, .int .i64 x.time, .int .i64 x.rkind, .int .i64 x.rarg, .int .i64 x.rvalue, .bool x.rdef, .slice x.ca x.cl x.cc, .int .i64 x.qseq, .int .i64 x.qcase, .int .i64 x.qcode, .int .i64 x.qvalue]))
 have HY1 := Zd (Blk.drew (HY0.out.alloc (.cells #[.int .i64 x.kind, .int .i64 t, .int .i64 x.seq, .int .i64 x.time, .int .i64 x.rkind, .int .i64 x.rarg, .int .i64 x.rvalue, .bool x.rdef, .slice x.ca x.cl x.cc, .int .i64 x.qseq, .int .i64 x.qcase, .int .i64 x.qcode, .int .i64 x.qvalue] 44)))
 have HB1 := Zd ((HB0.out.alloc HB0.out.size (.cells #[.int .i64 x.kind, .int .i64 t, .int .i64 x.seq, .int .i64 x.time, .int .i64 x.rkind, .int .i64 x.rarg, .int .i64 x.rvalue, .bool x.rdef, .slice x.ca x.cl x.cc, .int .i64 x.qseq, .int .i64 x.qcase, .int .i64 x.qcode, .int .i64 x.qvalue] 44)).drew)
 have HN1' : Hid ((w.alloc (.cells #[.int .i64 pa, .slice RA rn rc, .slice (some ⟨bL, oL, none⟩) ln lc] 57)).heap.size = w.heap.size + 1) := Zd (by simp)
 rw [HN1'.out] at HN1
 clear c0 c1 c2 c3 c4 c5 c6 c7 c8 c9 c10 c11 c12 hFN HY0 HB0 HN1'
 go_step
 generalize ((w.alloc (.cells #[.int .i64 pa, .slice RA rn rc, .slice (some ⟨bL, oL, none⟩) ln lc] 57)).alloc (.cells #[.int .i64 x.kind, .int .i64 t, .int .i64 x.seq, .int .i64 x.time, .int .i64 x.rkind, .int .i64 x.rarg, .int .i64 x.rvalue, .bool x.rdef, .slice x.ca x.cl x.cc, .int .i64 x.qseq, .int .i64 x.qcase, .int .i64 x.qcode, .int .i64 x.qvalue] 44)).drew = W1 at *
 have y0 := HY1.out.cell (i := 0) rfl
 have y1 := HY1.out.cell (i := 1) rfl
 have y2 := HY1.out.cell (i := 2) rfl
 have v0 := HN1.out.cell (i := 0) rfl
 have v1 := HN1.out.cell (i := 1) rfl
 have v2 := HN1.out.cell (i := 2) rfl
 have v4 := HN1.out.cell (i := 4) rfl
 have v5 := HN1.out.cell (i := 5) rfl
 have v6 := HN1.out.cell (i := 6) rfl
 have v7 := HN1.out.cell (i := 7) rfl
 have v8 := HN1.out.cell (i := 8) rfl
 have hbc := fun o => HB1.out.cell (p := ⟨bL, o, none⟩) hbL
 have hl0 : w.heap.size < W1.heap.size := HY1.out.lt
 have hl1 : w.heap.size + 1 < W1.heap.size := HN1.out.lt
 have hl2 : bL < W1.heap.size := Nat.lt_of_lt_of_le hbL HB1.out.size
 have HB2 := Zd (fun o o' => HB1.out.trans ((below_two W1 o o').mono HB1.out.size))
 rw [HNB.out] at HNO
 have hyap : y.applied = false := HYO.out.2.2.1.trans hap
 rw [hyap] at d7
 have HYAP := Zd hyap
 clear hyap HFT
 have hv3 := HN1.out.cell (i := 3) rfl
 have hv9 := HN1.out.cell (i := 9) rfl
 have hv10 := HN1.out.cell (i := 10) rfl
 have hv11 := HN1.out.cell (i := 11) rfl
 have hv12 := HN1.out.cell (i := 12) rfl
 clear hap hnb
 go_step
 go_upto_region 13 with (first
  | (go_at_call 71
     refine (HNO.out _).mono ?_
     rintro er w2 ⟨rfl, hb2⟩
     have HXB := Zd (((Blk.new W1 63 [.int .i64 y.q.kind, .int .i64 y.q.arg, .int .i64 y.q.value, .bool y.q.dflt, .slice y.q.A y.q.n y.q.c, .int .i64 y.seq, .bool y.on, .bool false]).alloc (.cells #[.int .i64 ((pa : Int) + 1), .slice RA rn rc, .slice (some ⟨bL, oL, none⟩) ln lc] 57)).below hb2 (by simp; omega))
     have HNB := Zd ((blk_new (w := W1.alloc (.cells #[.int .i64 y.q.kind, .int .i64 y.q.arg, .int .i64 y.q.value, .bool y.q.dflt, .slice y.q.A y.q.n y.q.c, .int .i64 y.seq, .bool y.on, .bool false] 63)) (g := W1.heap.size + 1) (cs := [.int .i64 ((pa : Int) + 1), .slice RA rn rc, .slice (some ⟨bL, oL, none⟩) ln lc]) (t := 57) (by simp)).below hb2 (by simp))
     have HW2 := Zd ((below_two W1 _ _).trans (hb2.mono (below_two W1 _ _).size))
     have HS2 := Zd (HY1.out.below HW2.out HY1.out.lt)
     have HO2 := Zd (HN1.out.below HW2.out HN1.out.lt)
     clear hb2
     clear y0 y1 y2 v0 v1 v2 v4 v5 v6 v7 v8
     have x0 := HXB.out.cell (i := 0) rfl
     have x1 := HXB.out.cell (i := 1) rfl
     have x2 := HXB.out.cell (i := 2) rfl
     have x3 := HXB.out.cell (i := 3) rfl
     have x4 := HXB.out.cell (i := 4) rfl
     have x5 := HXB.out.cell (i := 5) rfl
     have x6 := HXB.out.cell (i := 6) rfl
     have zx6 := HXB.out.frozen 6
     have x7 := HXB.out.cell (i := 7) rfl
     have m0 := HNB.out.cell (i := 0) rfl
     have m1 := HNB.out.cell (i := 1) rfl
     have m2 := HNB.out.cell (i := 2) rfl
     have y0 := HS2.out.cell (i := 0) rfl
     have y1 := HS2.out.cell (i := 1) rfl
     have y2 := HS2.out.cell (i := 2) rfl
     have v0 := HO2.out.cell (i := 0) rfl
     have v1 := HO2.out.cell (i := 1) rfl
     have v2 := HO2.out.cell (i := 2) rfl
     have v3 := HO2.out.cell (i := 3) rfl
     have v4 := HO2.out.cell (i := 4) rfl
     have v5 := HO2.out.cell (i := 5) rfl
     have v6 := HO2.out.cell (i := 6) rfl
     have v7 := HO2.out.cell (i := 7) rfl
     have v8 := HO2.out.cell (i := 8) rfl
     have v9 := HO2.out.cell (i := 9) rfl
     have v10 := HO2.out.cell (i := 10) rfl
     have v11 := HO2.out.cell (i := 11) rfl
     have v12 := HO2.out.cell (i := 12) rfl)
  | fail)
 have HTOT := Zd HW2.out
 have HSTS := Zd (StsIn.nil w W1 w2)
 have HPL : Hid (([] : List StP).length <= 1) := Zd (by simp)
 clear y0 y1 y2
 have HS3 := Zd (HY1.out.below HTOT.out HY1.out.lt)
 clear x0 x1 x2 x3 x4 x5 x6 zx6 x7 m0 m1 m2 v0 v1 v2 v3 v4 v5 v6 v7 v8 v9 v10 v11 v12 HS2 HW2 HNO d0 d1 d2 d3 d4 d5 d6 d7 HXB HO2
 have y0 := HS3.out.cell (i := 0) rfl
 have y1 := HS3.out.cell (i := 1) rfl
 have y2 := HS3.out.cell (i := 2) rfl
 go_wp2_with fail
 go_loopg [8, 82] ln (fun gg out i wr => ∃ (k : Nat) (A1 : Option Addr) (c1 : Nat) (S : List Str), k <= ln /\ gg = ln - k /\ i = .int .i64 k /\ out = .slice A1 S.length c1 /\ StsIn w W1 wr A1 c1 S (([] : List StP) ++ effK c p k) /\ Below W1.heap.size W1 wr)
 case atStart => exact ⟨0, none, 0, [], Nat.zero_le _, rfl, rfl, rfl, by unfold effK; rw [List.append_nil]; exact HSTS.out, HTOT.out⟩
 case round =>
  obtain ⟨k, A1, c1, S, hk, hg, rfl, rfl, hst, hbr⟩ := hrel
  have HG := Zd hg
  have HS := Zd hst
  have HBR := Zd hbr
  clear hg hst hbr
  by_cases hlt : k < ln
  . have HEF := Zd (show effK c p (k + 1) = effK c p k ++ (if (p.l.getD k OpP.none).on = true /\ (p.l.getD k OpP.none).applied = false /\ 0 < (p.l.getD k OpP.none).seq then [⟨p.at_, applyO c p.rec_ k (p.l.getD k OpP.none).seq (p.l.getD k OpP.none).req, p.l.set k ⟨(p.l.getD k OpP.none).on, true, (p.l.getD k OpP.none).seq, (p.l.getD k OpP.none).req⟩⟩] else []) from rfl)
    have hyk := HLK.out k hlt
    have hrc := opr_cells (w := wr) (k := k) (fun j v h => (HBR.out.cell (p := ⟨bL, oL + j, none⟩) hl2).trans ((HB1.out.cell (p := ⟨bL, oL + j, none⟩) hbL).trans (HCLL.out j v h))) (by rw [HLL.out]; exact hlt) rfl
    have HSL : Hid (S.length <= ln + 1) := Zd (by have h1 := HS.out.len; have h2 := effK_len c p k; rw [List.length_append] at h1; have := HPL.out; omega)
    have hsl2 := HSL.out
    generalize p.l.getD k OpP.none = q at *
    generalize hz : L.getD k Opr.none = z at *
    clear hz
    obtain ⟨⟨xk, xa, xv, xd, xA, xn, xc⟩, xs, xo, xp⟩ := z
    obtain ⟨qo, qp, qs, qr⟩ := q
    obtain ⟨e1', e2', e3', cs2, hcs2, hcl2, e4'⟩ := hyk
    simp only at e1' e2' e3' e4' hrc
    subst e1' e2' e3' e4'
    have HCS2 := Zd hcs2
    have HCL2 := Zd hcl2
    clear hcs2 hcl2
    obtain ⟨r0, r1, r2, r3, r4, r5, r6, r7⟩ := hrc
    have t0 : (0 : Int) <= (k : Int) := by omega
    have t1 : (k : Int) < (ln : Int) := by omega
    by_cases hall : xo = true /\ xp = false /\ 0 < xs
    . obtain ⟨rfl, rfl, hx0⟩ := hall
      have HEG : Hid (effK c p (k + 1) = effK c p k ++ [⟨p.at_, applyO c p.rec_ k xs (Reqr.p ⟨xk, xa, xv, xd, xA, xn, xc⟩ cs2), p.l.set k ⟨true, true, xs, Reqr.p ⟨xk, xa, xv, xd, xA, xn, xc⟩ cs2⟩⟩]) := Zd (by rw [HEF.out, if_pos ⟨rfl, rfl, hx0⟩])
      clear HEF
      have HOX : Hid (OprIs w ⟨⟨xk, xa, xv, xd, xA, xn, xc⟩, xs, true, true⟩ ⟨true, true, xs, Reqr.p ⟨xk, xa, xv, xd, xA, xn, xc⟩ cs2⟩) := Zd ⟨rfl, rfl, rfl, cs2, HCS2.out, HCL2.out, rfl⟩
      have HBG := Zd (HOK.out.big p.rec_ k xs (Reqr.p ⟨xk, xa, xv, xd, xA, xn, xc⟩ cs2) HST.out.big)
      have HRL : Hid ((applyO c p.rec_ k xs (Reqr.p ⟨xk, xa, xv, xd, xA, xn, xc⟩ cs2)).length = rn) := Zd (applyO_len.trans HST.out.rn)
      have HAP := Zd (fun W (hb : Below w.heap.size w W) => HOK.out.apply RA rc p.rec_ k xs ⟨xk, xa, xv, xd, xA, xn, xc⟩ cs2 W (HCI.out.below hb) (HST.out.rd.below hb) (by rw [HST.out.rn]; exact HST.out.rc) (by rw [HST.out.rn]; exact HST.out.rb) HST.out.big (HCS2.out.below hb) HCL2.out)
      rw [HST.out.rn] at HAP
      generalize applyO c p.rec_ k xs (Reqr.p ⟨xk, xa, xv, xd, xA, xn, xc⟩ cs2) = rec' at *
      have HWT := Zd (fun W (hW : Below w.heap.size w W) => hWith_any ⟨(pa : Int), RA, rn, rc, some ⟨bL, oL, none⟩, ln, lc⟩ L k ⟨⟨xk, xa, xv, xd, xA, xn, xc⟩, xs, true, true⟩ W HLL.out hsl hlt (HLR.out.below hW))
      unfold strV oprV at HWT
      unfold cfgV reqV RetWords RetMore at HAP
      simp only at HWT
      simp only [HRL.out] at HAP
      have HBQ := Zd (HB1.out.trans (HBR.out.mono HB1.out.size))
      have HSR := Zd (HY1.out.below HBR.out HY1.out.lt)
      have HSRL : Hid (w.heap.size < wr.heap.size) := Zd HSR.out.lt
      have HFR := Zd ((srch_cfg HFB.out).below HBQ.out)
      have HFRL : Hid (gF < wr.heap.size) := Zd HFR.out.1
      have h8 := HSRL.out
      have h9 := HFRL.out
      clear y0 y1 y2
      have y0 := HSR.out.cell (i := 0) rfl
      have y1 := HSR.out.cell (i := 1) rfl
      have y2 := HSR.out.cell (i := 2) rfl
      have HBZ := Zd ((Below.refl wr.heap.size wr).alloc (Nat.le_refl _) (.cells #[.int .i64 xk, .int .i64 xa, .int .i64 xv, .bool xd, .slice xA xn xc, .int .i64 xs, .bool true, .bool true] 63))
      go_upto_region 19 with (have HBZ1 := Zd (HBQ.out.trans (HBZ.out.mono HBQ.out.size)); refine (HWT.out _ HBZ1.out).mono ?_; rintro er w3 ⟨A2, c2, rfl, how3, hb3⟩; have HO3 := Zd how3; have HW3 := Zd hb3; unfold strV; simp only; clear how3 hb3)
      have HB4 := Zd (HBZ.out.trans (HW3.out.mono HBZ.out.size))
      have HM5 := Zd (Blk.new w3 57 [.int .i64 (pa : Int), .slice RA rn rc, .slice A2 ln c2])
      have HB5 := Zd (HB4.out.alloc HB4.out.size (.cells #[.int .i64 (pa : Int), .slice RA rn rc, .slice A2 ln c2] 57))
      have HO5 := Zd (HO3.out.alloc (.cells #[.int .i64 (pa : Int), .slice RA rn rc, .slice A2 ln c2] 57))
      have HZ5 := Zd (((Blk.new wr 63 [.int .i64 xk, .int .i64 xa, .int .i64 xv, .bool xd, .slice xA xn xc, .int .i64 xs, .bool true, .bool true]).below HW3.out (by simp)).alloc (.cells #[.int .i64 (pa : Int), .slice RA rn rc, .slice A2 ln c2] 57))
      have HLE : Hid (wr.heap.size <= w3.heap.size /\ w3.heap.size < (w3.alloc (.cells #[.int .i64 (pa : Int), .slice RA rn rc, .slice A2 ln c2] 57)).heap.size) := Zd ⟨HB4.out.size, by simp⟩
      clear r0 r1 r2 r3 r4 r5 r6 r7 y0 y1 y2
      generalize (w3.alloc (.cells #[.int .i64 (pa : Int), .slice RA rn rc, .slice A2 ln c2] 57)) = W5 at *
      have HF5 := Zd (HFR.out.below HB5.out)
      have HS5 := Zd (HSR.out.below HB5.out HSR.out.lt)
      have HBE := Zd (HBQ.out.trans (HB5.out.mono HBQ.out.size))
      obtain ⟨f0, f1, f2, f3, f4, f5, f6, f7, f8, f9, f10⟩ := HF5.out.all
      have y1 := HS5.out.cell (i := 1) rfl
      have z0 := HZ5.out.cell (i := 0) rfl
      have z1 := HZ5.out.cell (i := 1) rfl
      have z2 := HZ5.out.cell (i := 2) rfl
      have z3 := HZ5.out.cell (i := 3) rfl
      have z4 := HZ5.out.cell (i := 4) rfl
      have z5 := HZ5.out.cell (i := 5) rfl
      have g5 := HF5.out.1
      have s5 := HS5.out.lt
      have b5 := HZ5.out.lt
      have n5a : gF ≠ w3.heap.size := by have := HLE.out; omega
      have n5b : w.heap.size ≠ w3.heap.size := by have := HLE.out; omega
      have n5c : wr.heap.size ≠ w3.heap.size := by have := HB4.out; have h := HW3.out.size; simp at h; omega
      have n5a' := n5a.symm
      have n5b' := n5b.symm
      have n5c' := n5c.symm
      go_region_held3 (fun w' => w'.cell? ⟨gF, 0, none⟩ = some (.int .i64 c.kind) /\ w'.cell? ⟨gF, 1, none⟩ = some (.int .i64 c.threads) /\ w'.cell? ⟨gF, 2, none⟩ = some (.int .i64 c.chans) /\ w'.cell? ⟨gF, 3, none⟩ = some (.int .i64 c.cap) /\ w'.cell? ⟨gF, 4, none⟩ = some (.int .i64 c.nodes) /\ w'.cell? ⟨gF, 5, none⟩ = some (.int .i64 c.retire) /\ w'.cell? ⟨gF, 6, none⟩ = some (.int .i64 c.patience) /\ w'.cell? ⟨gF, 7, none⟩ = some (.int .i64 c.tags) /\ w'.cell? ⟨gF, 8, none⟩ = some (.int .i64 c.seqs) /\ w'.cell? ⟨gF, 9, none⟩ = some (.int .i64 c.gens) /\ w'.cell? ⟨gF, 10, none⟩ = some (.slice c.sa c.start.length c.sc) /\ w'.cell? ⟨w.heap.size, 1, none⟩ = some (.slice RA rn rc) /\ w'.cell? ⟨wr.heap.size, 0, none⟩ = some (.int .i64 xk) /\ w'.cell? ⟨wr.heap.size, 1, none⟩ = some (.int .i64 xa) /\ w'.cell? ⟨wr.heap.size, 2, none⟩ = some (.int .i64 xv) /\ w'.cell? ⟨wr.heap.size, 3, none⟩ = some (.bool xd) /\ w'.cell? ⟨wr.heap.size, 4, none⟩ = some (.slice xA xn xc) /\ w'.cell? ⟨wr.heap.size, 5, none⟩ = some (.int .i64 xs)) (first | go_keep | (simp only [hk1, hk2, hk3]; go_keep)) (first
       | (go_at_call 72; refine (HAP.out _ ?_).mono ?_; (first | exact HBE.out | exact HBE.out.drew); rintro er w6 ⟨R3, rc3, rfl, how6, hb6'⟩; have hb6 : Below W5.heap.size W5 w6 := ⟨hb6'.os, hb6'.tape, hb6'.output, hb6'.size, hb6'.block⟩; have hk1 := fun o => hb6.cell (p := ⟨gF, o, none⟩) g5; have hk2 := fun o => hb6.cell (p := ⟨w.heap.size, o, none⟩) s5; have hk3 := fun o => hb6.cell (p := ⟨wr.heap.size, o, none⟩) b5; have HM6 := Zd (HM5.out.below hb6 HM5.out.lt); have m0 := HM6.out.cell (i := 0) rfl; have m1 := HM6.out.cell (i := 1) rfl; have zm1 := HM6.out.frozen 1; have m2 := HM6.out.cell (i := 2) rfl))
      have HB6 := Zd ((btr HB5.out hb6).setCell (p := ⟨w3.heap.size, 1, none⟩) HLE.out.1 (.slice R3 rn rc3))
      have HR6 := Zd (own_ty (own_lower how6 (b := w.heap.size) (Nat.le_trans HBQ.out.size HB5.out.size)) HM6.out (by decide) 1 (.slice R3 rn rc3))
      have HO6 := Zd (own_ty (own_lower (own_below HO5.out hb6) (b := w.heap.size) (Nat.le_trans HBQ.out.size HBZ.out.size)) HM6.out (by decide) 1 (.slice R3 rn rc3))
      have HM7 := Zd (HM6.out.set_ 1 (.slice R3 rn rc3))
      clear hk1 hk2 hk3 f0 f1 f2 f3 f4 f5 f6 f7 f8 f9 f10 y1 z0 z1 z2 z3 z4 z5 m0 m1 zm1 m2 how6 hb6 hb6'
      generalize w6.setCell ⟨w3.heap.size, 1, none⟩ (.slice R3 rn rc3) = W6 at *
      have m0 := HM7.out.cell (i := 0) rfl
      have m1 := HM7.out.cell (i := 1) rfl
      have m2 := HM7.out.cell (i := 2) rfl
      go_wp2_with (first
       | (at_builtin
          refine wpList_app rfl (.tmp 117) (.tmp 119) 80 57 rfl W1.heap.size (strV Str.none) 3 56 Tryz.underlying80 CloneSt_info rfl (by decide) A1 S.length c1 (rows S) rfl ((HS.out.below HB6.out).row.alloc _) (some ⟨W6.heap.size, 0, none⟩) 1 1 (rows [(⟨(pa : Int), R3, rn, rc3, A2, ln, c2⟩ : Str)]) rfl (by simp) rfl (blk_new rfl).rd (rows_one _) (S.length + 1) rfl (rows (S ++ [(⟨(pa : Int), R3, rn, rc3, A2, ln, c2⟩ : Str)])) (rows_append _ _).symm (by unfold maxLen; omega) (by omega) (by have := HBR.out.size; have := HB6.out.size; rw [World.size_alloc]; omega) ?_
          intro A3 c3 w8 hown3 hg3 hb8))
      go_roundg (ln - (k + 1))
      case measure => rw [HG.out]; omega
      case rel =>
       have hal := (Below.refl W6.heap.size W6).alloc (Nat.le_refl _) (.cells #[.int .i64 (pa : Int), .slice R3 rn rc3, .slice A2 ln c2] 57)
       have hnew := ((HST.out.eff HLL.out HLK.out hlt HOX.out HRL.out HST.out.rb HBG.out HR6.out HO6.out).below hal)
       have hb7 := HB6.out.trans (hal.mono HB6.out.size)
       refine ⟨k + 1, A3, c3, S ++ [⟨(pa : Int), R3, rn, rc3, A2, ln, c2⟩], by omega, rfl, by go_num, by rw [List.length_append]; rfl, ?_, (btr HBR.out hb7).trans hb8⟩
       rw [HEG.out, <- List.append_assoc]
       exact (HS.out.below hb7).put hnew hown3 hg3
    . have HEG : Hid (effK c p (k + 1) = effK c p k) := Zd (by rw [HEF.out, if_neg hall, List.append_nil])
      clear HEF
      have HNR : Hid (∀ ob, StsIn w W1 (wr.alloc ob) A1 c1 S (([] : List StP) ++ effK c p (k + 1)) /\ Below W1.heap.size W1 (wr.alloc ob)) := Zd (fun ob => ⟨by rw [HEG.out]; exact HS.out.below ((Below.refl _ _).alloc (Nat.le_refl _) _), HBR.out.alloc HBR.out.size _⟩)
      cases xo
      . go_wp2_with fail
        go_roundg (ln - (k + 1))
        case measure => rw [HG.out]; omega
        case rel => exact ⟨k + 1, A1, c1, S, by omega, rfl, by go_num, rfl, HNR.out _⟩
      . cases xp
        . have hx0 : ¬ 0 < xs := fun h => hall ⟨rfl, rfl, h⟩
          clear hall
          go_wp2_with fail
          go_roundg (ln - (k + 1))
          case measure => rw [HG.out]; omega
          case rel => exact ⟨k + 1, A1, c1, S, by omega, rfl, by go_num, rfl, HNR.out _⟩
        . clear hall
          go_wp2_with fail
          go_roundg (ln - (k + 1))
          case measure => rw [HG.out]; omega
          case rel => exact ⟨k + 1, A1, c1, S, by omega, rfl, by go_num, rfl, HNR.out _⟩
  . obtain rfl : k = ln := by omega
    go_wp2_with fail
    go_ret
    rw [HV.out]
    exact HS.out.ret (HB1.out.trans (HBR.out.mono HB1.out.size)) rfl
end Go.Proofs.YtieglgahfeecbaaGreatDoor
