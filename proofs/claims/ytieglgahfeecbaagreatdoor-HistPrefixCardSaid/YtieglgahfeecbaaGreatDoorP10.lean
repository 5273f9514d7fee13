/- hist: how much is left to be tried from a state on: plain. -/
import Derived.Lib.AppendStr
import Derived.Maps.OwnSet
import Derived.Test.YtieglgahfeecbaaGreatDoorP7
import Derived.Test.YtieglgahfeecbaaGreatDoorP8
import Derived.Test.YtieglgahfeecbaaGreatDoorP9
set_option maxHeartbeats 64000000
set_option maxRecDepth 100000
namespace Go.Proofs.YtieglgahfeecbaaGreatDoor
open Go.RowKit Go.Sort
attribute [local go_sem ↓] Go.wp_at_zero Go.wp_at_succ
theorem hWays_none (c : Cfg) (gF : Nat) (NA : Option Addr) (nc mb : Nat) (NS : List Nte) (PS : List NtP) (s : Str) (p : StP) (t : Nat) (w : World) (hok : ObjOk c) (hc : CfgIn w c) (hF : Blk w gF 51 (srchCells c NA NS.length nc mb))
  (hN : NtsAt w NA NS PS) (hs : StAt w s p) (hat : p.at_ < NS.length) (hth : (NS.getD p.at_ Nte.none).thread = (t : Int)) (ht : t < s.ln) (hk1 : ¬ (NS.getD p.at_ Nte.none).kind = 1)
  (hap : (p.l.getD t OpP.none).applied = false) (hnb : noneB (PS.getD p.at_ NtP.none) = true) :
  Calls Tryz.prog 36 #[.pointer (some ⟨gF, 0, none⟩), strV s] w (RetSts (waysS c PS p) w) := by
 obtain ⟨L, hL, hLR, hLk⟩ := hs.l
 obtain ⟨cs, hcs, hcl, hps⟩ := hN.is_ p.at_ hat
 obtain ⟨bN, oN, hNA, hbN, hcN⟩ := hN.rd.at_ (by rw [rows_length]; simp only [Cellful.s]; omega)
 have hxc := note_cells (k := p.at_) (x := NS.getD p.at_ Nte.none) hcN hat rfl
 obtain ⟨bL, oL, hLA, hbL, hcL⟩ := hLR.at_ (by rw [rows_length]; simp only [Cellful.s]; omega)
 have hyc := opr_cells (k := t) (x := L.getD t Opr.none) hcL (by rw [hL]; exact ht) rfl
 have hyo := hLk t ht
 have HCLL := Zd hcL
 clear hcN hcL
 generalize hx : NS.getD p.at_ Nte.none = x at *
 generalize hy : L.getD t Opr.none = y at *
 have HYO := Zd hyo
 have hpth : (x.p cs).thread.toNat = t := by show x.thread.toNat = t; omega
 have hpk : ¬ (x.p cs).kind = 1 := hk1
 rw [hps] at hnb
 have HNB : Hid ((decide (x.kind = 3) && (decide (x.qcode = 6) || decide (x.qcode = 7))) = true) := Zd hnb
 have HV : Hid (waysS c PS p = [⟨p.at_ + 1, p.rec_, p.l.set t ⟨false, false, (p.l.getD t OpP.none).seq, ReqP.none⟩⟩] ++ effK c p p.l.length) := Zd (by
  unfold waysS
  simp only [hps]
  rw [if_neg hpk, hpth, if_neg (by rw [hap]; simp), if_pos ⟨hnb, hap⟩])
 rw [hs.ln] at HV
 generalize waysS c PS p = R at *
 have HFT := Zd (fun W (hW : Below w.heap.size w W) => hFits_any c gF NA NS.length nc mb s x cs p.rec_ W hok (hc.below hW) (hF.below hW hF.lt) (hs.rd.below hW) hs.rn (by rw [hs.rn]; exact hs.rb) hs.big (by omega) (by have := hs.lb; omega))
 have HNO := Zd (fun W => hNone_any x W)
 have HST := Zd hs
 have HLL := Zd hL
 have HLK := Zd hLk
 have HLR := Zd hLR
 have HOK := Zd hok
 have HCI := Zd hc
 have HFB := Zd hF
 have HAT := Zd hs.at_
 have hsl := hs.lb
 have hnf := hN.few
 have e1 : (x.kind == 1) = false := by simp [hk1]
 have hFN : w.cell? ⟨gF, 11, none⟩ = some (.slice NA NS.length nc) := hF.cell rfl
 have HFL := Zd hF.lt
 clear hs hN hps hcs hcl hLk hLR hyo hL hk1 hF hx hok hc hpk hpth
 obtain ⟨at_, RA, rn, rc, LA, ln, lc⟩ := s
 simp only at hLA HLL HLK HLR HAT ht hsl hnf HFT
 subst hLA hNA
 have HAE : Hid (at_ = (p.at_ : Int)) := Zd HAT.out
 clear HAT
 obtain rfl := HAE.out
 clear HAE
 generalize hpa : p.at_ = pa at *
 have HPA := Zd hpa
 clear hpa
 generalize hnl : NS.length = nn at *
 have HNL := Zd hnl
 clear hnl
 have q0 : (0 : Int) <= (pa : Int) := by omega
 have q1 : (pa : Int) < (nn : Int) := by omega
 have q2 : (0 : Int) <= (t : Int) := by omega
 have q3 : (t : Int) < (ln : Int) := by omega
 obtain ⟨c0, c1, c2, c3, c4, c5, c6, c7, c8, c9, c10, c11, c12⟩ := hxc
 obtain ⟨d0, d1, d2, d3, d4, d5, d6, d7⟩ := hyc
 rw [hth] at c1
 unfold strV nteV at HFT
 unfold nteV at HNO
 simp only [hth] at HFT HNO
 have nb1 := Nat.ne_of_lt hbN
 have nb2 := Nat.ne_of_lt hbL
 have nb3 := Nat.ne_of_lt HFL.out
 have HY0 := Zd (Blk.new w 57 [.int .i64 pa, .slice RA rn rc, .slice (some ⟨bL, oL, none⟩) ln lc])
 have HB0 := Zd ((Below.refl w.heap.size w).alloc (Nat.le_refl _) (.cells #[.int .i64 pa, .slice RA rn rc, .slice (some ⟨bL, oL, none⟩) ln lc] 57))
 unfold strV
 simp only
 go_enter Tryz.func36, Tryz.ntmps36
 go_wp2_with fail
 go_region_held3 (fun w' => w'.cell? ⟨gF, 11, none⟩ = some (.slice (some ⟨bN, oN, none⟩) nn nc) /\ w'.cell? ⟨w.heap.size, 0, none⟩ = some (.int .i64 pa) /\ w'.cell? ⟨bN, oN + pa * 13, none⟩ = some (.int .i64 x.kind) /\ w'.cell? ⟨bN, oN + pa * 13 + 1, none⟩ = some (.int .i64 t) /\ w'.cell? ⟨bN, oN + pa * 13 + 2, none⟩ = some (.int .i64 x.seq) /\ w'.cell? ⟨bN, oN + pa * 13 + 3, none⟩ = some (.int .i64 x.time) /\ w'.cell? ⟨bN, oN + pa * 13 + 4, none⟩ = some (.int .i64 x.rkind) /\ w'.cell? ⟨bN, oN + pa * 13 + 5, none⟩ = some (.int .i64 x.rarg) /\ w'.cell? ⟨bN, oN + pa * 13 + 6, none⟩ = some (.int .i64 x.rvalue) /\ w'.cell? ⟨bN, oN + pa * 13 + 7, none⟩ = some (.bool x.rdef) /\ w'.cell? ⟨bN, oN + pa * 13 + 8, none⟩ = some (.slice x.ca x.cl x.cc) /\ w'.cell? ⟨bN, oN + pa * 13 + 9, none⟩ = some (.int .i64 x.qseq) /\ w'.cell? ⟨bN, oN + pa * 13 + 10, none⟩ = some (.int .i64 x.qcase) /\ w'.cell? ⟨bN, oN + pa * 13 + 11, none⟩ = some (.int .i64 x.qcode) /\ w'.cell? ⟨bN, oN + pa * 13 + 12, none⟩ = some (.int .i64 x.qvalue)) (go_keep) (fail)
 have HN1 := Zd (Blk.drew (Blk.new (w.alloc (.cells #[.int .i64 pa, .slice RA rn rc, .slice (some ⟨bL, oL, none⟩) ln lc] 57)) 44 [.int .i64 x.kind, .int .i64 t, .int .i64 x.seq, .int .i64 x.time, .int .i64 x.rkind, .int .i64 x.rarg, .int .i64 x.rvalue, .bool x.rdef, .slice x.ca x.cl x.cc, .int .i64 x.qseq, .int .i64 x.qcase, .int .i64 x.qcode, .int .i64 x.qvalue]))
 have HY1 := Zd (Blk.drew (HY0.out.alloc (.cells #[.int .i64 x.kind, .int .i64 t, .int .i64 x.seq, .int .i64 x.time, .int .i64 x.rkind, .int .i64 x.rarg, .int .i64 x.rvalue, .bool x.rdef, .slice x.ca x.cl x.cc, .int .i64 x.qseq, .int .i64 x.qcase, .int .i64 x.qcode, .int .i64 x.qvalue] 44)))
 have HB1 := Zd ((HB0.out.alloc HB0.out.size (.cells #[.int .i64 x.kind, .int .i64 t, .int .i64 x.seq, .int .i64 x.time, .int .i64 x.rkind, .int .i64 x.rarg, .int .i64 x.rvalue, .bool x.rdef, .slice x.ca x.cl x.cc, .int .i64 x.qseq, .int .i64 x.qcase, .int .i64 x.qcode, .int .i64 x.qvalue] 44)).drew)
 have HN1' : Hid ((w.alloc (.cells #[.int .i64 pa, .slice RA rn rc, .slice (some ⟨bL, oL, none⟩) ln lc] 57)).heap.size = w.heap.size + 1) := Zd (by simp)
 rw [HN1'.out] at HN1
 clear c0 c1 c2 c3 c4 c5 c6 c7 c8 c9 c10 c11 c12 hFN HY0 HB0 HN1'
 go_step
 generalize ((w.alloc (.cells #[.int .i64 pa, .slice RA rn rc, .slice (some ⟨bL, oL, none⟩) ln lc] 57)).alloc (.cells #[.int .i64 x.kind, .int .i64 t, .int .i64 x.seq, .int .i64 x.time, .int .i64 x.rkind, .int .i64 x.rarg, .int .i64 x.rvalue, .bool x.rdef, .slice x.ca x.cl x.cc, .int .i64 x.qseq, .int .i64 x.qcase, .int .i64 x.qcode, .int .i64 x.qvalue] 44)).drew = W1 at *
 have y0 := HY1.out.cell (i := 0) rfl
 have y1 := HY1.out.cell (i := 1) rfl
 have y2 := HY1.out.cell (i := 2) rfl
 have v0 := HN1.out.cell (i := 0) rfl
 have v1 := HN1.out.cell (i := 1) rfl
 have v2 := HN1.out.cell (i := 2) rfl
 have v4 := HN1.out.cell (i := 4) rfl
 have v5 := HN1.out.cell (i := 5) rfl
 have v6 := HN1.out.cell (i := 6) rfl
 have v7 := HN1.out.cell (i := 7) rfl
 have v8 := HN1.out.cell (i := 8) rfl
 have hbc := fun o => HB1.out.cell (p := ⟨bL, o, none⟩) hbL
 have hl0 : w.heap.size < W1.heap.size := HY1.out.lt
 have hl1 : w.heap.size + 1 < W1.heap.size := HN1.out.lt
 have hl2 : bL < W1.heap.size := Nat.lt_of_lt_of_le hbL HB1.out.size
 have HB2 := Zd (fun o o' => HB1.out.trans ((below_two W1 o o').mono HB1.out.size))
 rw [HNB.out] at HNO
 have hyap : y.applied = false := HYO.out.2.2.1.trans hap
 rw [hyap] at d7
 have HYAP := Zd hyap
 clear hyap HFT
 have hv3 := HN1.out.cell (i := 3) rfl
 have hv9 := HN1.out.cell (i := 9) rfl
 have hv10 := HN1.out.cell (i := 10) rfl
 have hv11 := HN1.out.cell (i := 11) rfl
 have hv12 := HN1.out.cell (i := 12) rfl
 have HWT := Zd (fun W (hW : Below w.heap.size w W) => hWith_any ⟨(pa : Int) + 1, RA, rn, rc, some ⟨bL, oL, none⟩, ln, lc⟩ L t ⟨Reqr.none, y.seq, false, false⟩ W HLL.out hsl ht (HLR.out.below hW))
 unfold strV oprV Reqr.none at HWT
 simp only at HWT
 clear hap hnb
 go_step
 go_upto_region 13 with (first
  | (go_at_call 71
     refine (HNO.out _).mono ?_
     rintro er w2 ⟨rfl, hb2⟩
     have HXB := Zd (((Blk.new W1 63 [.int .i64 y.q.kind, .int .i64 y.q.arg, .int .i64 y.q.value, .bool y.q.dflt, .slice y.q.A y.q.n y.q.c, .int .i64 y.seq, .bool y.on, .bool false]).alloc (.cells #[.int .i64 ((pa : Int) + 1), .slice RA rn rc, .slice (some ⟨bL, oL, none⟩) ln lc] 57)).below hb2 (by simp; omega))
     have HNB := Zd ((blk_new (w := W1.alloc (.cells #[.int .i64 y.q.kind, .int .i64 y.q.arg, .int .i64 y.q.value, .bool y.q.dflt, .slice y.q.A y.q.n y.q.c, .int .i64 y.seq, .bool y.on, .bool false] 63)) (g := W1.heap.size + 1) (cs := [.int .i64 ((pa : Int) + 1), .slice RA rn rc, .slice (some ⟨bL, oL, none⟩) ln lc]) (t := 57) (by simp)).below hb2 (by simp))
     have HW2 := Zd ((below_two W1 _ _).trans (hb2.mono (below_two W1 _ _).size))
     have HS2 := Zd (HY1.out.below HW2.out HY1.out.lt)
     have HO2 := Zd (HN1.out.below HW2.out HN1.out.lt)
     clear hb2
     clear y0 y1 y2 v0 v1 v2 v4 v5 v6 v7 v8
     have x0 := HXB.out.cell (i := 0) rfl
     have x1 := HXB.out.cell (i := 1) rfl
     have x2 := HXB.out.cell (i := 2) rfl
     have x3 := HXB.out.cell (i := 3) rfl
     have x4 := HXB.out.cell (i := 4) rfl
     have x5 := HXB.out.cell (i := 5) rfl
     have x6 := HXB.out.cell (i := 6) rfl
     have zx6 := HXB.out.frozen 6
     have x7 := HXB.out.cell (i := 7) rfl
     have m0 := HNB.out.cell (i := 0) rfl
     have m1 := HNB.out.cell (i := 1) rfl
     have m2 := HNB.out.cell (i := 2) rfl
     have y0 := HS2.out.cell (i := 0) rfl
     have y1 := HS2.out.cell (i := 1) rfl
     have y2 := HS2.out.cell (i := 2) rfl
     have v0 := HO2.out.cell (i := 0) rfl
     have v1 := HO2.out.cell (i := 1) rfl
     have v2 := HO2.out.cell (i := 2) rfl
     have v3 := HO2.out.cell (i := 3) rfl
     have v4 := HO2.out.cell (i := 4) rfl
     have v5 := HO2.out.cell (i := 5) rfl
     have v6 := HO2.out.cell (i := 6) rfl
     have v7 := HO2.out.cell (i := 7) rfl
     have v8 := HO2.out.cell (i := 8) rfl
     have v9 := HO2.out.cell (i := 9) rfl
     have v10 := HO2.out.cell (i := 10) rfl
     have v11 := HO2.out.cell (i := 11) rfl
     have v12 := HO2.out.cell (i := 12) rfl)
  | (go_at_call 69
     refine (HWT.out _ (HB1.out.trans (HW2.out.mono HB1.out.size))).mono ?_
     rintro er w3 ⟨A2, c2, rfl, how3, hb3⟩
     have HO3 := Zd how3
     have HW3 := Zd hb3
     have HLE3 : Hid (W1.heap.size <= w3.heap.size) := Zd (Nat.le_trans HW2.out.size hb3.size)
     unfold strV
     simp only
     clear how3 hb3)
  | (at_builtin
     refine wpList_app rfl (.tmp 69) (.tmp 77) 80 57 rfl W1.heap.size (strV Str.none) 3 56 Tryz.underlying80 CloneSt_info rfl (by decide) none 0 0 [] rfl (own_nil _ _ _ _) (some ⟨w3.heap.size, 0, none⟩) 1 1 (rows [(⟨(pa : Int) + 1, RA, rn, rc, A2, ln, c2⟩ : Str)]) rfl (by simp) rfl (blk_new rfl).rd (rows_one _) 1 rfl (rows [(⟨(pa : Int) + 1, RA, rn, rc, A2, ln, c2⟩ : Str)]) rfl (by unfold maxLen; omega) (by omega) (by have := HLE3.out; rw [World.size_alloc]; omega) ?_
     intro A0 dd0 w5 hown5 hg5 hb5
     have HOW5 := Zd hown5
     have HGR5 := Zd hg5
     have HBL5 := Zd hb5
     clear hown5 hg5 hb5))
 have HAL := Zd ((Below.refl w3.heap.size w3).alloc (Nat.le_refl _) (.cells #[.int .i64 ((pa : Int) + 1), .slice RA rn rc, .slice A2 ln c2] 57))
 have HTOT := Zd (((HW2.out.trans (HW3.out.mono HW2.out.size)).trans (HAL.out.mono HLE3.out)).trans HBL5.out)
 have HSTS : Hid (StsIn w W1 w5 A0 dd0 [(⟨(pa : Int) + 1, RA, rn, rc, A2, ln, c2⟩ : Str)] [⟨pa + 1, p.rec_, p.l.set t ⟨false, false, (p.l.getD t OpP.none).seq, ReqP.none⟩⟩]) := Zd (by
  have hox : OprIs w ⟨Reqr.none, y.seq, false, false⟩ ⟨false, false, (p.l.getD t OpP.none).seq, ReqP.none⟩ := by rw [<- HYO.out.1]; exact oprIs_none w y.seq
  have hnew := (HST.out.stands HLL.out HLK.out ht hox (pa + 1) (own_lower HO3.out (b := w.heap.size) (Nat.le_trans HB1.out.size HW2.out.size))).below HAL.out
  rw [show (((pa + 1 : Nat) : Int)) = (pa : Int) + 1 by omega] at hnew
  exact (StsIn.nil w W1 _).put hnew HOW5.out HGR5.out)
 have HPL : Hid (([⟨pa + 1, p.rec_, p.l.set t ⟨false, false, (p.l.getD t OpP.none).seq, ReqP.none⟩⟩] : List StP).length <= 1) := Zd (by simp)
 clear HWT HO3 HW3 HLE3 HAL HOW5 HGR5 HBL5
 clear y0 y1 y2
 have HS3 := Zd (HY1.out.below HTOT.out HY1.out.lt)
 clear x0 x1 x2 x3 x4 x5 x6 zx6 x7 m0 m1 m2 v0 v1 v2 v3 v4 v5 v6 v7 v8 v9 v10 v11 v12 HS2 HW2 HNO d0 d1 d2 d3 d4 d5 d6 d7 HXB HO2
 have y0 := HS3.out.cell (i := 0) rfl
 have y1 := HS3.out.cell (i := 1) rfl
 have y2 := HS3.out.cell (i := 2) rfl
 go_wp2_with fail
 go_loopg [8, 82] ln (fun gg out i wr => ∃ (k : Nat) (A1 : Option Addr) (c1 : Nat) (S : List Str), k <= ln /\ gg = ln - k /\ i = .int .i64 k /\ out = .slice A1 S.length c1 /\ StsIn w W1 wr A1 c1 S (([⟨pa + 1, p.rec_, p.l.set t ⟨false, false, (p.l.getD t OpP.none).seq, ReqP.none⟩⟩] : List StP) ++ effK c p k) /\ Below W1.heap.size W1 wr)
 case atStart => exact ⟨0, A0, dd0, [(⟨(pa : Int) + 1, RA, rn, rc, A2, ln, c2⟩ : Str)], Nat.zero_le _, rfl, rfl, rfl, by unfold effK; rw [List.append_nil]; exact HSTS.out, HTOT.out⟩
 case round =>
  obtain ⟨k, A1, c1, S, hk, hg, rfl, rfl, hst, hbr⟩ := hrel
  have HG := Zd hg
  have HS := Zd hst
  have HBR := Zd hbr
  clear hg hst hbr
  by_cases hlt : k < ln
  . have HEF := Zd (show effK c p (k + 1) = effK c p k ++ (if (p.l.getD k OpP.none).on = true /\ (p.l.getD k OpP.none).applied = false /\ 0 < (p.l.getD k OpP.none).seq then [⟨p.at_, applyO c p.rec_ k (p.l.getD k OpP.none).seq (p.l.getD k OpP.none).req, p.l.set k ⟨(p.l.getD k OpP.none).on, true, (p.l.getD k OpP.none).seq, (p.l.getD k OpP.none).req⟩⟩] else []) from rfl)
    have hyk := HLK.out k hlt
    have hrc := opr_cells (w := wr) (k := k) (fun j v h => (HBR.out.cell (p := ⟨bL, oL + j, none⟩) hl2).trans ((HB1.out.cell (p := ⟨bL, oL + j, none⟩) hbL).trans (HCLL.out j v h))) (by rw [HLL.out]; exact hlt) rfl
    have HSL : Hid (S.length <= ln + 1) := Zd (by have h1 := HS.out.len; have h2 := effK_len c p k; rw [List.length_append] at h1; have := HPL.out; omega)
    have hsl2 := HSL.out
    generalize p.l.getD k OpP.none = q at *
    generalize hz : L.getD k Opr.none = z at *
    clear hz
    obtain ⟨⟨xk, xa, xv, xd, xA, xn, xc⟩, xs, xo, xp⟩ := z
    obtain ⟨qo, qp, qs, qr⟩ := q
    obtain ⟨e1', e2', e3', cs2, hcs2, hcl2, e4'⟩ := hyk
    simp only at e1' e2' e3' e4' hrc
    subst e1' e2' e3' e4'
    have HCS2 := Zd hcs2
    have HCL2 := Zd hcl2
    clear hcs2 hcl2
    obtain ⟨r0, r1, r2, r3, r4, r5, r6, r7⟩ := hrc
    have t0 : (0 : Int) <= (k : Int) := by omega
    have t1 : (k : Int) < (ln : Int) := by omega
    by_cases hall : xo = true /\ xp = false /\ 0 < xs
    . obtain ⟨rfl, rfl, hx0⟩ := hall
      have HEG : Hid (effK c p (k + 1) = effK c p k ++ [⟨p.at_, applyO c p.rec_ k xs (Reqr.p ⟨xk, xa, xv, xd, xA, xn, xc⟩ cs2), p.l.set k ⟨true, true, xs, Reqr.p ⟨xk, xa, xv, xd, xA, xn, xc⟩ cs2⟩⟩]) := Zd (by rw [HEF.out, if_pos ⟨rfl, rfl, hx0⟩])
      clear HEF
      have HOX : Hid (OprIs w ⟨⟨xk, xa, xv, xd, xA, xn, xc⟩, xs, true, true⟩ ⟨true, true, xs, Reqr.p ⟨xk, xa, xv, xd, xA, xn, xc⟩ cs2⟩) := Zd ⟨rfl, rfl, rfl, cs2, HCS2.out, HCL2.out, rfl⟩
      have HBG := Zd (HOK.out.big p.rec_ k xs (Reqr.p ⟨xk, xa, xv, xd, xA, xn, xc⟩ cs2) HST.out.big)
      have HRL : Hid ((applyO c p.rec_ k xs (Reqr.p ⟨xk, xa, xv, xd, xA, xn, xc⟩ cs2)).length = rn) := Zd (applyO_len.trans HST.out.rn)
      have HAP := Zd (fun W (hb : Below w.heap.size w W) => HOK.out.apply RA rc p.rec_ k xs ⟨xk, xa, xv, xd, xA, xn, xc⟩ cs2 W (HCI.out.below hb) (HST.out.rd.below hb) (by rw [HST.out.rn]; exact HST.out.rc) (by rw [HST.out.rn]; exact HST.out.rb) HST.out.big (HCS2.out.below hb) HCL2.out)
      rw [HST.out.rn] at HAP
      generalize applyO c p.rec_ k xs (Reqr.p ⟨xk, xa, xv, xd, xA, xn, xc⟩ cs2) = rec' at *
      have HWT := Zd (fun W (hW : Below w.heap.size w W) => hWith_any ⟨(pa : Int), RA, rn, rc, some ⟨bL, oL, none⟩, ln, lc⟩ L k ⟨⟨xk, xa, xv, xd, xA, xn, xc⟩, xs, true, true⟩ W HLL.out hsl hlt (HLR.out.below hW))
      unfold strV oprV at HWT
      unfold cfgV reqV RetWords RetMore at HAP
      simp only at HWT
      simp only [HRL.out] at HAP
      have HBQ := Zd (HB1.out.trans (HBR.out.mono HB1.out.size))
      have HSR := Zd (HY1.out.below HBR.out HY1.out.lt)
      have HSRL : Hid (w.heap.size < wr.heap.size) := Zd HSR.out.lt
      have HFR := Zd ((srch_cfg HFB.out).below HBQ.out)
      have HFRL : Hid (gF < wr.heap.size) := Zd HFR.out.1
      have h8 := HSRL.out
      have h9 := HFRL.out
      clear y0 y1 y2
      have y0 := HSR.out.cell (i := 0) rfl
      have y1 := HSR.out.cell (i := 1) rfl
      have y2 := HSR.out.cell (i := 2) rfl
      have HBZ := Zd ((Below.refl wr.heap.size wr).alloc (Nat.le_refl _) (.cells #[.int .i64 xk, .int .i64 xa, .int .i64 xv, .bool xd, .slice xA xn xc, .int .i64 xs, .bool true, .bool true] 63))
      go_upto_region 19 with (have HBZ1 := Zd (HBQ.out.trans (HBZ.out.mono HBQ.out.size)); refine (HWT.out _ HBZ1.out).mono ?_; rintro er w3 ⟨A2, c2, rfl, how3, hb3⟩; have HO3 := Zd how3; have HW3 := Zd hb3; unfold strV; simp only; clear how3 hb3)
      have HB4 := Zd (HBZ.out.trans (HW3.out.mono HBZ.out.size))
      have HM5 := Zd (Blk.new w3 57 [.int .i64 (pa : Int), .slice RA rn rc, .slice A2 ln c2])
      have HB5 := Zd (HB4.out.alloc HB4.out.size (.cells #[.int .i64 (pa : Int), .slice RA rn rc, .slice A2 ln c2] 57))
      have HO5 := Zd (HO3.out.alloc (.cells #[.int .i64 (pa : Int), .slice RA rn rc, .slice A2 ln c2] 57))
      have HZ5 := Zd (((Blk.new wr 63 [.int .i64 xk, .int .i64 xa, .int .i64 xv, .bool xd, .slice xA xn xc, .int .i64 xs, .bool true, .bool true]).below HW3.out (by simp)).alloc (.cells #[.int .i64 (pa : Int), .slice RA rn rc, .slice A2 ln c2] 57))
      have HLE : Hid (wr.heap.size <= w3.heap.size /\ w3.heap.size < (w3.alloc (.cells #[.int .i64 (pa : Int), .slice RA rn rc, .slice A2 ln c2] 57)).heap.size) := Zd ⟨HB4.out.size, by simp⟩
      clear r0 r1 r2 r3 r4 r5 r6 r7 y0 y1 y2
      generalize (w3.alloc (.cells #[.int .i64 (pa : Int), .slice RA rn rc, .slice A2 ln c2] 57)) = W5 at *
      have HF5 := Zd (HFR.out.below HB5.out)
      have HS5 := Zd (HSR.out.below HB5.out HSR.out.lt)
      have HBE := Zd (HBQ.out.trans (HB5.out.mono HBQ.out.size))
      obtain ⟨f0, f1, f2, f3, f4, f5, f6, f7, f8, f9, f10⟩ := HF5.out.all
      have y1 := HS5.out.cell (i := 1) rfl
      have z0 := HZ5.out.cell (i := 0) rfl
      have z1 := HZ5.out.cell (i := 1) rfl
      have z2 := HZ5.out.cell (i := 2) rfl
      have z3 := HZ5.out.cell (i := 3) rfl
      have z4 := HZ5.out.cell (i := 4) rfl
      have z5 := HZ5.out.cell (i := 5) rfl
      have g5 := HF5.out.1
      have s5 := HS5.out.lt
      have b5 := HZ5.out.lt
      have n5a : gF ≠ w3.heap.size := by have := HLE.out; omega
      have n5b : w.heap.size ≠ w3.heap.size := by have := HLE.out; omega
      have n5c : wr.heap.size ≠ w3.heap.size := by have := HB4.out; have h := HW3.out.size; simp at h; omega
      have n5a' := n5a.symm
      have n5b' := n5b.symm
      have n5c' := n5c.symm
      go_region_held3 (fun w' => w'.cell? ⟨gF, 0, none⟩ = some (.int .i64 c.kind) /\ w'.cell? ⟨gF, 1, none⟩ = some (.int .i64 c.threads) /\ w'.cell? ⟨gF, 2, none⟩ = some (.int .i64 c.chans) /\ w'.cell? ⟨gF, 3, none⟩ = some (.int .i64 c.cap) /\ w'.cell? ⟨gF, 4, none⟩ = some (.int .i64 c.nodes) /\ w'.cell? ⟨gF, 5, none⟩ = some (.int .i64 c.retire) /\ w'.cell? ⟨gF, 6, none⟩ = some (.int .i64 c.patience) /\ w'.cell? ⟨gF, 7, none⟩ = some (.int .i64 c.tags) /\ w'.cell? ⟨gF, 8, none⟩ = some (.int .i64 c.seqs) /\ w'.cell? ⟨gF, 9, none⟩ = some (.int .i64 c.gens) /\ w'.cell? ⟨gF, 10, none⟩ = some (.slice c.sa c.start.length c.sc) /\ w'.cell? ⟨w.heap.size, 1, none⟩ = some (.slice RA rn rc) /\ w'.cell? ⟨wr.heap.size, 0, none⟩ = some (.int .i64 xk) /\ w'.cell? ⟨wr.heap.size, 1, none⟩ = some (.int .i64 xa) /\ w'.cell? ⟨wr.heap.size, 2, none⟩ = some (.int .i64 xv) /\ w'.cell? ⟨wr.heap.size, 3, none⟩ = some (.bool xd) /\ w'.cell? ⟨wr.heap.size, 4, none⟩ = some (.slice xA xn xc) /\ w'.cell? ⟨wr.heap.size, 5, none⟩ = some (.int .i64 xs)) (first | go_keep | (simp only [hk1, hk2, hk3]; go_keep)) (first
       | (go_at_call 72; refine (HAP.out _ ?_).mono ?_; (first | exact HBE.out | exact HBE.out.drew); rintro er w6 ⟨R3, rc3, rfl, how6, hb6'⟩; have hb6 : Below W5.heap.size W5 w6 := ⟨hb6'.os, hb6'.tape, hb6'.output, hb6'.size, hb6'.block⟩; have hk1 := fun o => hb6.cell (p := ⟨gF, o, none⟩) g5; have hk2 := fun o => hb6.cell (p := ⟨w.heap.size, o, none⟩) s5; have hk3 := fun o => hb6.cell (p := ⟨wr.heap.size, o, none⟩) b5; have HM6 := Zd (HM5.out.below hb6 HM5.out.lt); have m0 := HM6.out.cell (i := 0) rfl; have m1 := HM6.out.cell (i := 1) rfl; have zm1 := HM6.out.frozen 1; have m2 := HM6.out.cell (i := 2) rfl))
      have HB6 := Zd ((btr HB5.out hb6).setCell (p := ⟨w3.heap.size, 1, none⟩) HLE.out.1 (.slice R3 rn rc3))
      have HR6 := Zd (own_ty (own_lower how6 (b := w.heap.size) (Nat.le_trans HBQ.out.size HB5.out.size)) HM6.out (by decide) 1 (.slice R3 rn rc3))
      have HO6 := Zd (own_ty (own_lower (own_below HO5.out hb6) (b := w.heap.size) (Nat.le_trans HBQ.out.size HBZ.out.size)) HM6.out (by decide) 1 (.slice R3 rn rc3))
      have HM7 := Zd (HM6.out.set_ 1 (.slice R3 rn rc3))
      clear hk1 hk2 hk3 f0 f1 f2 f3 f4 f5 f6 f7 f8 f9 f10 y1 z0 z1 z2 z3 z4 z5 m0 m1 zm1 m2 how6 hb6 hb6'
      generalize w6.setCell ⟨w3.heap.size, 1, none⟩ (.slice R3 rn rc3) = W6 at *
      have m0 := HM7.out.cell (i := 0) rfl
      have m1 := HM7.out.cell (i := 1) rfl
      have m2 := HM7.out.cell (i := 2) rfl
      go_wp2_with (first
       | (at_builtin
          refine wpList_app rfl (.tmp 117) (.tmp 119) 80 57 rfl W1.heap.size (strV Str.none) 3 56 Tryz.underlying80 CloneSt_info rfl (by decide) A1 S.length c1 (rows S) rfl ((HS.out.below HB6.out).row.alloc _) (some ⟨W6.heap.size, 0, none⟩) 1 1 (rows [(⟨(pa : Int), R3, rn, rc3, A2, ln, c2⟩ : Str)]) rfl (by simp) rfl (blk_new rfl).rd (rows_one _) (S.length + 1) rfl (rows (S ++ [(⟨(pa : Int), R3, rn, rc3, A2, ln, c2⟩ : Str)])) (rows_append _ _).symm (by unfold maxLen; omega) (by omega) (by have := HBR.out.size; have := HB6.out.size; rw [World.size_alloc]; omega) ?_
          intro A3 c3 w8 hown3 hg3 hb8))
      go_roundg (ln - (k + 1))
      case measure => rw [HG.out]; omega
      case rel =>
       have hal := (Below.refl W6.heap.size W6).alloc (Nat.le_refl _) (.cells #[.int .i64 (pa : Int), .slice R3 rn rc3, .slice A2 ln c2] 57)
       have hnew := ((HST.out.eff HLL.out HLK.out hlt HOX.out HRL.out HST.out.rb HBG.out HR6.out HO6.out).below hal)
       have hb7 := HB6.out.trans (hal.mono HB6.out.size)
       refine ⟨k + 1, A3, c3, S ++ [⟨(pa : Int), R3, rn, rc3, A2, ln, c2⟩], by omega, rfl, by go_num, by rw [List.length_append]; rfl, ?_, (btr HBR.out hb7).trans hb8⟩
       rw [HEG.out, <- List.append_assoc]
       exact (HS.out.below hb7).put hnew hown3 hg3
    . have HEG : Hid (effK c p (k + 1) = effK c p k) := Zd (by rw [HEF.out, if_neg hall, List.append_nil])
      clear HEF
      have HNR : Hid (∀ ob, StsIn w W1 (wr.alloc ob) A1 c1 S (([⟨pa + 1, p.rec_, p.l.set t ⟨false, false, (p.l.getD t OpP.none).seq, ReqP.none⟩⟩] : List StP) ++ effK c p (k + 1)) /\ Below W1.heap.size W1 (wr.alloc ob)) := Zd (fun ob => ⟨by rw [HEG.out]; exact HS.out.below ((Below.refl _ _).alloc (Nat.le_refl _) _), HBR.out.alloc HBR.out.size _⟩)
      cases xo
      . go_wp2_with fail
        go_roundg (ln - (k + 1))
        case measure => rw [HG.out]; omega
        case rel => exact ⟨k + 1, A1, c1, S, by omega, rfl, by go_num, rfl, HNR.out _⟩
      . cases xp
        . have hx0 : ¬ 0 < xs := fun h => hall ⟨rfl, rfl, h⟩
          clear hall
          go_wp2_with fail
          go_roundg (ln - (k + 1))
          case measure => rw [HG.out]; omega
          case rel => exact ⟨k + 1, A1, c1, S, by omega, rfl, by go_num, rfl, HNR.out _⟩
        . clear hall
          go_wp2_with fail
          go_roundg (ln - (k + 1))
          case measure => rw [HG.out]; omega
          case rel => exact ⟨k + 1, A1, c1, S, by omega, rfl, by go_num, rfl, HNR.out _⟩
  . obtain rfl : k = ln := by omega
    go_wp2_with fail
    go_ret
    rw [HV.out]
    exact HS.out.ret (HB1.out.trans (HBR.out.mono HB1.out.size)) rfl
theorem hWays_any (c : Cfg) (gF : Nat) (NA : Option Addr) (nc mb : Nat) (NS : List Nte) (PS : List NtP) (s : Str) (p : StP) (t : Nat) (w : World) (hok : ObjOk c) (hc : CfgIn w c) (hF : Blk w gF 51 (srchCells c NA NS.length nc mb))
  (hN : NtsAt w NA NS PS) (hs : StAt w s p) (hat : p.at_ < NS.length) (hth : (NS.getD p.at_ Nte.none).thread = (t : Int)) (ht : t < s.ln) :
  Calls Tryz.prog 36 #[.pointer (some ⟨gF, 0, none⟩), strV s] w (RetSts (waysS c PS p) w) := by
 by_cases hk1 : (NS.getD p.at_ Nte.none).kind = 1
 . exact hWays_call c gF NA nc mb NS PS s p t w hF hN hs hat hth ht hk1
 . cases hap : (p.l.getD t OpP.none).applied
   . cases hnb : noneB (PS.getD p.at_ NtP.none)
     . exact hWays_open c gF NA nc mb NS PS s p t w hok hc hF hN hs hat hth ht hk1 hap hnb
     . exact hWays_none c gF NA nc mb NS PS s p t w hok hc hF hN hs hat hth ht hk1 hap hnb
   . cases htl : tellsB c p.rec_ (PS.getD p.at_ NtP.none)
     . exact hWays_untold c gF NA nc mb NS PS s p t w hok hc hF hN hs hat hth ht hk1 hap htl
     . exact hWays_told c gF NA nc mb NS PS s p t w hok hc hF hN hs hat hth ht hk1 hap htl
section
open Go.RowKit Go.Sort Go.Lib
attribute [local go_sem ↓] Go.wp_at_zero Go.wp_at_succ
def RetBg (base : Nat) (v : Value) (n : Nat) (xs : List UInt8) (w : World) (e : Ending) (w' : World) : Prop :=
 ∃ A c, e = .returned (.slice A n c) /\ w'.ownsRow base 5 1 (.slice A n c) n (u8s xs) /\ w.grownBy w' v.ownBlock
theorem own_blk_neB {w : World} {base s n g : Nat} {e t : TypeId} {v : Value} {xs cs : List Value} (h : w.ownsRow base e s v n xs) (hb : Blk w g t cs) (hne : e ≠ t) : some g ≠ v.ownBlock := by
 rcases h.2 with ⟨rfl, _⟩ | ⟨b, cap, cur, rfl, _, hh, _⟩
 . simp [Value.ownBlock]
 . simp only [Value.ownBlock, ne_eq, Option.some.injEq]
   rintro rfl
   have h2 : w.heap[g]? = some (.cells cs.toArray t (0, 0)) := hb
   rw [hh] at h2
   simp only [Option.some.injEq, Obj.cells.injEq] at h2
   exact hne h2.2.1
def boolB (b : Bool) : List UInt8 := if b then [116, 114, 117, 101] else [102, 97, 108, 115, 101]
theorem own_formB {w : World} {base n : Nat} {e : TypeId} {v : Value} {xs : List Value} (h : w.ownsRow base e 1 v n xs) : ∃ A c, v = .slice A n c := by
 rcases h.2 with ⟨rfl, rfl⟩ | ⟨g, cap, _, rfl, _⟩
 . exact ⟨_, _, rfl⟩
 . exact ⟨_, _, rfl⟩
theorem iAppB (base : Nat) (A : Option Addr) (n c : Nat) (xs : List UInt8) (b : Bool) (w : World) (hn2 : n <= 1099511627776) (hbs : base <= w.heap.size) (hown : w.ownsRow base 5 1 (.slice A n c) n (u8s xs)) :
  Calls Tryz.prog 100 #[.slice A n c, .bool b] w (RetBg base (.slice A n c) (n + (boolB b).length) (xs ++ boolB b) w) := by
 obtain ⟨i0, hi, hz0, hz1, hz2⟩ := info_parts byte_info
 have HI := Zd (And.intro hi (And.intro hz0 (And.intro hz1 hz2)))
 have HOW := Zd hown
 clear hi hz0 hz1 hz2 hown
 cases b
 . go_enter Tryz.func100, Tryz.ntmps100
   go_wp2_with (first
    | (at_builtin
       refine wpList_append_own_string _ rfl (.tmp 8) (.const (.string ⟨#[102, 97, 108, 115, 101]⟩)) 113 9 rfl base 5 i0 Tryz.underlying113 Tryz.underlying9 HI.out.1 HI.out.2.1 HI.out.2.2.1 HI.out.2.2.2 _ n (u8s xs) rfl HOW.out ⟨#[102, 97, 108, 115, 101]⟩ rfl (by unfold maxLen; simp [ByteArray.size]; omega) (by simp [ByteArray.size]; omega) hbs ?_
       intro v' w' hown1 hg1 hn1
       obtain ⟨A1, c1, rfl⟩ := own_formB hown1
       have HO1 := Zd hown1
       have HG1 := Zd hg1
       clear hown1 hg1 hn1)
    | fail)
   go_ret
   refine ⟨A1, c1, rfl, ?_, HG1.out⟩
   rw [show u8s (xs ++ boolB false) = u8s xs ++ strCells ⟨#[102, 97, 108, 115, 101]⟩ by simp [u8s, strCells, boolB]]
   exact HO1.out
 . go_enter Tryz.func100, Tryz.ntmps100
   go_wp2_with (first
    | (at_builtin
       refine wpList_append_own_string _ rfl (.tmp 6) (.const (.string ⟨#[116, 114, 117, 101]⟩)) 113 9 rfl base 5 i0 Tryz.underlying113 Tryz.underlying9 HI.out.1 HI.out.2.1 HI.out.2.2.1 HI.out.2.2.2 _ n (u8s xs) rfl HOW.out ⟨#[116, 114, 117, 101]⟩ rfl (by unfold maxLen; simp [ByteArray.size]; omega) (by simp [ByteArray.size]; omega) hbs ?_
       intro v' w' hown1 hg1 hn1
       obtain ⟨A1, c1, rfl⟩ := own_formB hown1
       have HO1 := Zd hown1
       have HG1 := Zd hg1
       clear hown1 hg1 hn1)
    | fail)
   go_ret
   refine ⟨A1, c1, rfl, ?_, HG1.out⟩
   rw [show u8s (xs ++ boolB true) = u8s xs ++ strCells ⟨#[116, 114, 117, 101]⟩ by simp [u8s, strCells, boolB]]
   exact HO1.out
theorem appB (base : Nat) (A : Option Addr) (n c : Nat) (xs : List UInt8) (b : Bool) (w : World) (hn2 : n <= 1099511627776) (hbs : base <= w.heap.size) (hown : w.ownsRow base 5 1 (.slice A n c) n (u8s xs)) :
  Calls Tryz.prog 67 #[.slice A n c, .bool b] w (RetBg base (.slice A n c) (n + (boolB b).length) (xs ++ boolB b) w) := by
 have HF := Zd (iAppB base A n c xs b w hn2 hbs hown)
 clear hown
 go_enter Tryz.func67, Tryz.ntmps67
 go_wp2_with (first
  | (go_at_call 100
     refine HF.out.mono ?_
     rintro e w' ⟨A1, c1, rfl, ho, hb⟩)
  | fail)
 go_ret
 exact ⟨A1, c1, rfl, ho, hb⟩
def nameR (p : StP) (k : Nat) : List UInt8 := hexDigits p.at_ ++ (p.rec_.take k).flatMap (fun x => 32 :: hexDigits x.toNat)
def nameL (p : StP) (k : Nat) : List UInt8 := nameR p p.rec_.length ++ (p.l.take k).flatMap (fun y => 32 :: boolB y.applied)
def stateNameS (p : StP) : List UInt8 := nameL p p.l.length
theorem nameR_succ (p : StP) {k : Nat} (h : k < p.rec_.length) : nameR p (k + 1) = (nameR p k ++ [32]) ++ hexDigits (p.rec_.getD k 0).toNat := by
 unfold nameR
 rw [List.take_succ_eq_append_getElem h, List.flatMap_append]
 simp [List.getD_eq_getElem?_getD, List.getElem?_eq_getElem h]
theorem nameL_succ (p : StP) {k : Nat} (h : k < p.l.length) : nameL p (k + 1) = (nameL p k ++ [32]) ++ boolB (p.l.getD k OpP.none).applied := by
 unfold nameL
 rw [List.take_succ_eq_append_getElem h, List.flatMap_append]
 simp [List.getD_eq_getElem?_getD, List.getElem?_eq_getElem h]
theorem boolB_len (b : Bool) : (boolB b).length <= 5 := by cases b <;> decide
theorem hex_few {u : Nat} (h : u < 18446744073709551616) : (hexDigits u).length <= 16 := hex_length 15 u (by simpa using h)
theorem nameR_len (p : StP) (ha : p.at_ < 18446744073709551616) (hb : ∀ x ∈ p.rec_, 0 <= x /\ x < 18446744073709551616) : ∀ k, k <= p.rec_.length -> (nameR p k).length <= 16 + 17 * k
 | 0, _ => by simpa [nameR] using hex_few ha
 | k + 1, h => by
   rw [nameR_succ p h]
   have := nameR_len p ha hb k (by omega)
   have hx := hb _ (getD_mem (l := p.rec_) (k := k) (d := 0) (by omega))
   have := hex_few (u := (p.rec_.getD k 0).toNat) (by omega)
   simp only [List.length_append, List.length_cons, List.length_nil]
   omega
theorem nameL_len (p : StP) (ha : p.at_ < 18446744073709551616) (hb : ∀ x ∈ p.rec_, 0 <= x /\ x < 18446744073709551616) : ∀ k, k <= p.l.length -> (nameL p k).length <= 16 + 17 * p.rec_.length + 6 * k
 | 0, _ => by simpa [nameL] using nameR_len p ha hb p.rec_.length (Nat.le_refl _)
 | k + 1, h => by
   rw [nameL_succ p h]
   have := nameL_len p ha hb k (by omega)
   have := boolB_len (p.l.getD k OpP.none).applied
   simp only [List.length_append, List.length_cons, List.length_nil]
   omega
end
section
open Go.RowKit Go.Sort Go.Lib
attribute [local go_sem ↓] Go.wp_at_zero Go.wp_at_succ
theorem hexDigits_pos (u : Nat) : 0 < (hexDigits u).length := by
 rw [hexDigits]; split <;> simp
theorem nameL_pos (p : StP) (k : Nat) : 0 < (nameL p k).length := by
 have := hexDigits_pos p.at_
 simp only [nameL, nameR, List.length_append]
 omega
theorem hName_any (s : Str) (p : StP) (w : World) (hs : StAt w s p) (ht : Tz16 w) (hat : p.at_ <= 4096) :
  Calls Tryz.prog 34 #[strV s] w fun e w' => e = .returned (.string ⟨(stateNameS p).toArray⟩) /\ Below w.heap.size w w' := by
 obtain ⟨L, hL, hLR, hLk⟩ := hs.l
 have HBX := Zd (Blk.new w 57 s.cells)
 have HB0 := Zd ((Below.refl w.heap.size w).alloc (Nat.le_refl _) (.cells #[.int .i64 s.at_, .slice s.RA s.rn s.rc, .slice s.LA s.ln s.lc] 57))
 have HT := Zd ht
 have HRL := Zd hs.rn
 have HLL := Zd hs.ln
 have HRD := Zd hs.rd
 have HBIG := Zd hs.big
 have HLR := Zd hLR
 have HLK := Zd hLk
 have HLN := Zd hL
 have HNR := Zd (nameR_len p (by omega) hs.big)
 have HNL := Zd (nameL_len p (by omega) hs.big)
 have hrb := hs.rb
 have hlb := hs.lb
 have HAT := Zd hs.at_
 clear hs hL hLR hLk ht
 obtain ⟨at_, RA, rn, rc, LA, ln, lc⟩ := s
 simp only [Str.cells] at HBX HB0 HRL HLL HRD HLR HLK HLN hrb hlb HAT
 obtain rfl := HAT.out
 clear HAT
 unfold strV
 simp only
 have HAI := Zd (fun W (h : Tz16 W) => appI16 p.at_ (by omega) W h)
 go_enter Tryz.func34, Tryz.ntmps34
 go_upto_region 1 with fail
 generalize (w.alloc (.cells #[.int .i64 (p.at_ : Int), .slice RA rn rc, .slice LA ln lc] 57)) = W0 at *
 have y0 := HBX.out.cell (i := 0) rfl
 have hx0 : w.heap.size < W0.heap.size := HBX.out.lt
 go_upto_region 2 with (first
  | (go_at_call 65
     refine (HAI.out _ (HT.out.below HB0.out)).mono ?_
     rintro er w1 ⟨A1, c1, rfl, ho1, hb1⟩
     have HO1 := Zd ho1
     have HB1 := Zd hb1
     clear ho1 hb1)
  | fail)
 clear y0
 have HX1 := Zd (HBX.out.below HB1.out HBX.out.lt)
 have y1 := HX1.out.cell (i := 1) rfl
 go_wp2_with fail
 go_loopg [3, 14] rn (fun gg b i wr => ∃ (k : Nat) (A1 : Option Addr) (c1 : Nat), k <= rn /\ gg = rn - k /\ i = .int .i64 k /\ b = .slice A1 (nameR p k).length c1 /\ wr.ownsRow W0.heap.size 5 1 (.slice A1 (nameR p k).length c1) (nameR p k).length (u8s (nameR p k)) /\ Below W0.heap.size W0 wr)
 case atStart =>
  have e : nameR p 0 = hexDigits p.at_ := by simp [nameR]
  refine ⟨0, A1, c1, Nat.zero_le _, rfl, rfl, by rw [e], by rw [e]; exact HO1.out, HB1.out⟩
 case round =>
  obtain ⟨k, A2, c2, hk, hg, rfl, rfl, ho, hb⟩ := hrel
  have HG := Zd hg
  have HO := Zd ho
  have HB := Zd hb
  clear hg ho hb
  by_cases hlt : k < rn
  . have hkr : k < p.rec_.length := by rw [HRL.out]; exact hlt
    have HS := Zd (nameR_succ p hkr)
    have hl1 := HNR.out k (by omega)
    have hx := HBIG.out _ (getD_mem (l := p.rec_) (k := k) (d := 0) hkr)
    obtain ⟨bR, oR, hRA, hbR, hcR⟩ := HRD.out.at_ (by simp [words]; omega)
    have hc := hcR k (.int .u64 (p.rec_.getD k 0)) (by simp [words, List.getD_eq_getElem?_getD, List.getElem?_eq_getElem hkr])
    subst hRA
    have hBw := HB0.out.trans (HB.out.mono HB0.out.size)
    have z0 := (hBw.cell (p := ⟨bR, oR + k, none⟩) hbR).trans hc
    have HTW := Zd (HT.out.below hBw)
    have HSZ := Zd HB.out.size
    clear hcR hc hkr hBw hbR
    generalize p.rec_.getD k 0 = x at *
    obtain ⟨u, rfl⟩ : ∃ u : Nat, x = u := ⟨x.toNat, by omega⟩
    rw [Int.toNat_natCast] at HS
    have HU := Zd (show u < 18446744073709551616 by omega)
    clear hx
    generalize hxs : nameR p (k + 1) = ys at *
    generalize nameR p k = xs at *
    generalize hm : xs.length = m at *
    have HM := Zd hm
    clear hm
    have t0 : (0 : Int) <= (k : Int) := by omega
    have t1 : (k : Int) < (rn : Int) := by omega
    have hm2 : m <= 17825808 := by omega
    go_wp2_with (first
     | (go_at_call 66
        refine (appU16 W0.heap.size A3 (m + 1) c3 (xs ++ [32]) u HU.out w3 (HT.out.below (HB0.out.trans ((HB.out.trans HBB3.out).mono HB0.out.size))) (by rw [List.length_append, HM.out]; rfl) (by omega) (HB.out.trans HBB3.out).size HO3.out).mono ?_
        rintro er w4 ⟨A4, c4, rfl, ho4, hb4⟩
        have HO4 := Zd ho4
        have HB4 := Zd hb4
        clear ho4 hb4)
     | (at_builtin
        refine wpList_app rfl (.tmp 18) (.tmp 19) 113 5 rfl W0.heap.size (.int .u8 0) 1 1 Tryz.underlying113 byte_info rfl (by decide) A2 m c2 (u8s xs) rfl (HO.out.alloc _) (some ⟨wr.heap.size, 0, none⟩) 1 1 (u8s [32]) rfl (by simp) rfl (blk_new rfl).rd (u8s_one _) (m + 1) rfl (u8s (xs ++ [32])) (by simp [u8s]) (by unfold maxLen; omega) (by omega) (Nat.le_trans HSZ.out (by simp)) ?_
        intro A3 c3 w3 hown3 hg3 hb3
        have HO3 := Zd hown3
        have HBB3 := Zd (((Below.refl W0.heap.size wr).alloc HSZ.out _).trans hb3)
        have HG3 := Zd hg3
        clear hown3 hg3 hb3)
     | fail)
    go_roundg (rn - (k + 1))
    case measure => rw [HG.out]; omega
    case rel =>
     have hl : ys.length = m + 1 + (hexDigits u).length := by rw [HS.out, List.length_append, List.length_append, HM.out]; rfl
     refine ⟨k + 1, A4, c4, by omega, rfl, by go_num, by rw [hxs, hl], ?_, (HB.out.trans HBB3.out).trans HB4.out⟩
     rw [hxs, hl, HS.out]
     exact HO4.out
  . obtain rfl : k = rn := by omega
    have HX2 := Zd (HBX.out.below HB.out HBX.out.lt)
    have y2 := HX2.out.cell (i := 2) rfl
    clear y1 HO1 HB1 HX1 HAI
    go_wp2_with fail
    go_loopg [3, 27] ln (fun gg b i wr => ∃ (j : Nat) (A1 : Option Addr) (c1 : Nat), j <= ln /\ gg = ln - j /\ i = .int .i64 j /\ b = .slice A1 (nameL p j).length c1 /\ wr.ownsRow W0.heap.size 5 1 (.slice A1 (nameL p j).length c1) (nameL p j).length (u8s (nameL p j)) /\ Below W0.heap.size W0 wr)
    case atStart =>
     have e : nameL p 0 = nameR p k := by simp [nameL, HRL.out]
     refine ⟨0, A2, c2, Nat.zero_le _, rfl, rfl, by rw [e], by rw [e]; exact HO.out, HB.out⟩
    case round =>
     obtain ⟨j, A3, c3, hj, hg, rfl, rfl, ho, hb⟩ := hrel
     clear HG HO
     have HG := Zd hg
     have HO := Zd ho
     have HBJ := Zd hb
     clear hg ho hb
     by_cases hlt2 : j < ln
     . have hjl : j < p.l.length := by rw [HLL.out]; exact hlt2
       have HS := Zd (nameL_succ p hjl)
       have hl1 := HNL.out j (by omega)
       rw [HRL.out] at hl1
       have hyk := HLK.out j hlt2
       obtain ⟨bL, oL, hLA, hbL, hcL⟩ := HLR.out.at_ (by rw [rows_length, HLN.out]; simp only [Cellful.s]; omega)
       have hBw := HB0.out.trans (HBJ.out.mono HB0.out.size)
       have hrc := opr_cells (w := wr) (k := j) (fun i v h => (hBw.cell (p := ⟨bL, oL + i, none⟩) hbL).trans (hcL i v h)) (by rw [HLN.out]; exact hlt2) rfl
       subst hLA
       have HSZ := Zd HBJ.out.size
       clear hcL hBw hbL hjl
       generalize L.getD j Opr.none = z at *
       obtain ⟨⟨xk, xa, xv, xd, xA, xn, xc⟩, xs0, xo, xp⟩ := z
       obtain ⟨_, _, e3, _⟩ := hyk
       simp only at e3 hrc
       rw [<- e3] at HS
       clear e3
       generalize hys : nameL p (j + 1) = ys at *
       generalize nameL p j = xs at *
       generalize hm : xs.length = m at *
       have HM := Zd hm
       clear hm
       obtain ⟨r0, r1, r2, r3, r4, r5, r6, r7⟩ := hrc
       have t0 : (0 : Int) <= (j : Int) := by omega
       have t1 : (j : Int) < (ln : Int) := by omega
       have hm2 : m <= 17850384 := by omega
       have HZ := Zd (Blk.new wr 63 [.int .i64 xk, .int .i64 xa, .int .i64 xv, .bool xd, .slice xA xn xc, .int .i64 xs0, .bool xo, .bool xp])
       have HO3 := Zd (HO.out.alloc (.cells #[.int .i64 xk, .int .i64 xa, .int .i64 xv, .bool xd, .slice xA xn xc, .int .i64 xs0, .bool xo, .bool xp] 63))
       have HB3 := Zd (HBJ.out.alloc HSZ.out (.cells #[.int .i64 xk, .int .i64 xa, .int .i64 xv, .bool xd, .slice xA xn xc, .int .i64 xs0, .bool xo, .bool xp] 63))
       go_upto_region 10 with fail
       clear r0 r1 r2 r3 r4 r5 r6 r7
       generalize (wr.alloc (.cells #[.int .i64 xk, .int .i64 xa, .int .i64 xv, .bool xd, .slice xA xn xc, .int .i64 xs0, .bool xo, .bool xp] 63)) = W3 at *
       generalize hgb : wr.heap.size = gb at *
       clear hgb
       have x7 := HZ.out.cell (i := 7) rfl
       have hgl := HZ.out.lt
       have n7 := Nat.ne_of_lt hgl
       have n7' := n7.symm
       have hb3s := HB3.out.size
       go_region_held3 (fun w' => w'.cell? ⟨gb, 7, none⟩ = some (.bool xp)) (first | go_keep | exact s7) (first
        | (go_at_call 67; refine (appB W0.heap.size A6 (m + 1) c6 (xs ++ [32]) xp w6 (by omega) hsz6 hown6).mono ?_; rintro er w7 ⟨A7, c7, rfl, ho7, hg7⟩; have hX7 := blk_grown hX6 hg7 (own_blk_neB hown6 hX6 (by decide)); (clear s7); have s7 := hX7.cell (i := 7) rfl)
        | (refine step_app ?_ (.tmp 31) (.tmp 32) 113 5 ?_ W0.heap.size (.int .u8 0) 1 1 Tryz.underlying113 byte_info ?_ ?_ A3 m c3 (u8s xs) ?_ ?_ _ 1 1 (u8s [32]) (by rfl) ?_ ?_ ?_ (u8s_one _) (m + 1) rfl (u8s (xs ++ [32])) ?_ ?_ ?_ ?_ ?_; rfl; rfl; rfl; decide; rfl; (first | exact HO3.out.alloc _ | exact (own_below HO3.out (Below.drewN' (Below.refl _ _) 1)).alloc _ | exact own_below (HO3.out.alloc _) (Below.drewN' (Below.refl _ _) 1)); simp; rfl; (first | exact (blk_new (by rfl)).rd | exact (Blk.drew (blk_new (by rfl))).rd); simp [u8s]; (unfold maxLen; omega); omega; (focus (first | (simp; omega) | (have := hb3s; simp; omega))); intro A6 c6 w6 hown6 hg6 hb6; (have hX6 : Blk w6 gb 63 _ := (by first | exact blk_grown (HZ.out.alloc _) hg6 (own_blk_neB HO3.out HZ.out (by decide)) | exact blk_grown (Blk.drew (HZ.out.alloc _)) hg6 (own_blk_neB HO3.out HZ.out (by decide)))); have s7 := hX6.cell (i := 7) rfl; have hsz6 : W0.heap.size <= w6.heap.size := (Nat.le_trans hb3s (Nat.le_trans (by simp) hg6.size)); have hB6 : Below W0.heap.size W0 w6 := (by first | exact (HB3.out.alloc hb3s _).trans hb6 | exact ((HB3.out.alloc hb3s _).drew).trans hb6 | exact ((HB3.out.drew).alloc hb3s _).trans hb6)))
       have HB7 := Zd (hB6.trans (own_grown hown6 hsz6 hg7))
       have HO7 := Zd ho7
       clear s7 x7 ho7 hg7 hX6 hX7 hown6 hg6 hb6 hB6
       go_wp2_with fail
       go_roundg (ln - (j + 1))
       case measure => rw [HG.out]; omega
       case rel =>
        have hl : ys.length = m + 1 + (boolB xp).length := by rw [HS.out, List.length_append, List.length_append, HM.out]; rfl
        refine ⟨j + 1, A7, c7, by omega, rfl, by go_num, by rw [hys, hl], ?_, HB7.out⟩
        rw [hys, hl, HS.out]
        exact HO7.out
     . obtain rfl : j = ln := by omega
       have hpos := nameL_pos p j
       obtain ⟨g, hA, hg1, hg2⟩ := own_some HO.out (by omega)
       subst hA
       have hcc := own_cellAt HO.out
       have hcv := run_convert_bytes_back (P := Tryz.prog) wr 113 9 5 ⟨g, 0, none⟩ c3 (nameL p j) Tryz.underlying113 Tryz.underlying5 Tryz.underlying9 (fun i hi => by
        have e1 : (Addr.add ⟨g, 0, none⟩ i) = ⟨g, 0 + i, none⟩ := by simp [Addr.add]; omega
        rw [e1]
        exact hcc i _ (by simp [u8s, hi]))
       have HSN : Hid (stateNameS p = nameL p j) := Zd (by unfold stateNameS; rw [HLL.out])
       have HW := Zd (HB0.out.trans (HBJ.out.mono HB0.out.size))
       clear hcc hpos hg1 hg2
       go_wp2_with fail
       go_ret
       exact ⟨by rw [HSN.out]; rfl, HW.out⟩
end
def decH (b : UInt8) : Nat := if b.toNat < 58 then b.toNat - 48 else b.toNat - 87
def unhex (l : List UInt8) : Nat := l.foldl (fun a b => a * 16 + decH b) 0
theorem dec_hexd : ∀ d : Nat, d < 16 -> decH (hexd d) = d /\ hexd d ≠ 32 := by
 have : ∀ d : Fin 16, decH (hexd d) = d /\ hexd d ≠ 32 := by decide +kernel
 exact fun d h => this ⟨d, h⟩
theorem unhex_hex (u : Nat) : unhex (hexDigits u) = u := by
 by_cases h : u < 16
 . rw [hex_last h]
   simp [unhex, (dec_hexd u h).1]
 . rw [hex_step (by omega)]
   have ih := unhex_hex (u / 16)
   unfold unhex at ih ⊢
   rw [List.foldl_append, ih]
   simp only [List.foldl_cons, List.foldl_nil]
   rw [(dec_hexd (u % 16) (by omega)).1]
   omega
 termination_by u
 decreasing_by omega
theorem hex_inj {u v : Nat} (h : hexDigits u = hexDigits v) : u = v := by rw [<- unhex_hex u, h, unhex_hex]
theorem hex_no32 (u : Nat) : (32 : UInt8) ∉ hexDigits u := by
 by_cases h : u < 16
 . rw [hex_last h]
   simpa using (dec_hexd u h).2.symm
 . rw [hex_step (by omega)]
   have ih := hex_no32 (u / 16)
   intro hm
   rcases List.mem_append.1 hm with h1 | h1
   . exact ih h1
   . simp only [List.mem_cons, List.not_mem_nil, or_false] at h1
     exact (dec_hexd (u % 16) (by omega)).2 h1.symm
 termination_by u
 decreasing_by omega
theorem bool_no32 (b : Bool) : (32 : UInt8) ∉ boolB b := by cases b <;> decide
theorem bool_inj {a b : Bool} (h : boolB a = boolB b) : a = b := by
 cases a <;> cases b <;> first | rfl | (revert h; decide)
theorem sep_inj : ∀ (a b x y : List UInt8), (32 : UInt8) ∉ a -> (32 : UInt8) ∉ b -> (∀ c, x.head? = some c -> c = 32) -> (∀ c, y.head? = some c -> c = 32) -> a ++ x = b ++ y -> a = b /\ x = y
 | [], [], x, y, _, _, _, _, h => ⟨rfl, h⟩
 | [], c :: b, x, y, _, hb, hx, _, h => by
   have : c = 32 := hx c (by rw [List.nil_append] at h; rw [h]; rfl)
   exact absurd (by rw [this]; exact List.mem_cons_self ..) hb
 | c :: a, [], x, y, ha, _, _, hy, h => by
   have : c = 32 := hy c (by rw [List.nil_append] at h; rw [<- h]; rfl)
   exact absurd (by rw [this]; exact List.mem_cons_self ..) ha
 | c :: a, d :: b, x, y, ha, hb, hx, hy, h => by
   simp only [List.cons_append, List.cons.injEq] at h
   have ih := sep_inj a b x y (fun hm => ha (List.mem_cons_of_mem _ hm)) (fun hm => hb (List.mem_cons_of_mem _ hm)) hx hy h.2
   exact ⟨by rw [h.1, ih.1], ih.2⟩
theorem row_inj {α : Type} (f : α -> List UInt8) (hf : ∀ a, (32 : UInt8) ∉ f a) : ∀ (l m : List α) (x y : List UInt8), l.length = m.length -> (∀ c, x.head? = some c -> c = 32) -> (∀ c, y.head? = some c -> c = 32) ->
  l.flatMap (fun a => 32 :: f a) ++ x = m.flatMap (fun a => 32 :: f a) ++ y -> l.map f = m.map f /\ x = y
 | [], [], x, y, _, _, _, h => ⟨rfl, by simpa using h⟩
 | [], _ :: _, _, _, hl, _, _, _ => by simp at hl
 | _ :: _, [], _, _, hl, _, _, _ => by simp at hl
 | a :: l, b :: m, x, y, hl, hx, hy, h => by
   simp only [List.flatMap_cons, List.cons_append, List.append_assoc, List.cons.injEq, true_and] at h
   have hd : ∀ (l : List α) (x : List UInt8), (∀ c, x.head? = some c -> c = 32) -> ∀ c, (l.flatMap (fun a => 32 :: f a) ++ x).head? = some c -> c = 32 := by
    intro l x hx c hc
    cases l with
    | nil => exact hx c (by simpa using hc)
    | cons _ _ => simp at hc; exact hc.symm
   obtain ⟨h1, h2⟩ := sep_inj (f a) (f b) _ _ (hf a) (hf b) (hd l x hx) (hd m y hy) h
   obtain ⟨h3, h4⟩ := row_inj f hf l m x y (by simpa using hl) hx hy h2
   exact ⟨by simp [h1, h3], h4⟩
theorem name_inj {p q : StP} (hr : p.rec_.length = q.rec_.length) (hl : p.l.length = q.l.length) (hp : ∀ x ∈ p.rec_, 0 <= x) (hq : ∀ x ∈ q.rec_, 0 <= x) (h : stateNameS p = stateNameS q) :
  p.at_ = q.at_ /\ p.rec_ = q.rec_ /\ p.l.map OpP.applied = q.l.map OpP.applied := by
 have e : ∀ p : StP, stateNameS p = hexDigits p.at_ ++ (p.rec_.flatMap (fun x => 32 :: hexDigits x.toNat) ++ (p.l.flatMap (fun y => 32 :: boolB y.applied) ++ [])) := by
  intro p
  simp only [stateNameS, nameL, nameR, List.take_length, List.append_assoc, List.append_nil]
 rw [e, e] at h
 have hd : ∀ {α : Type} (f : α -> List UInt8) (l : List α) (x : List UInt8), (∀ c, x.head? = some c -> c = 32) -> ∀ c, (l.flatMap (fun a => 32 :: f a) ++ x).head? = some c -> c = 32 := by
  intro α f l x hx c hc
  cases l with
  | nil => exact hx c (by simpa using hc)
  | cons _ _ => simp at hc; exact hc.symm
 have hn : ∀ c, ([] : List UInt8).head? = some c -> c = 32 := fun c hc => by simp at hc
 obtain ⟨h1, h2⟩ := sep_inj _ _ _ _ (hex_no32 _) (hex_no32 _) (hd _ _ _ (hd _ _ _ hn)) (hd _ _ _ (hd _ _ _ hn)) h
 obtain ⟨h3, h4⟩ := row_inj (fun x : Int => hexDigits x.toNat) (fun _ => hex_no32 _) _ _ _ _ hr (hd (fun y : OpP => boolB y.applied) _ _ hn) (hd (fun y : OpP => boolB y.applied) _ _ hn) h2
 obtain ⟨h5, _⟩ := row_inj (fun y : OpP => boolB y.applied) (fun _ => bool_no32 _) _ _ _ _ hl hn hn h4
 refine ⟨hex_inj h1, ?_, ?_⟩
 . apply List.ext_getElem hr
   intro i hi hj
   have h6 := List.getElem_of_eq h3 (i := i) (by simpa using hi)
   simp only [List.getElem_map] at h6
   have h7 := hex_inj h6
   have := hp _ (List.getElem_mem hi)
   have := hq _ (List.getElem_mem hj)
   omega
 . apply List.ext_getElem (by simpa using hl)
   intro i hi hj
   have h6 := List.getElem_of_eq h5 (i := i) (by simpa using hi)
   simp only [List.getElem_map] at h6 ⊢
   exact bool_inj h6
def entS (ns : List NtP) : Nat -> Nat -> Bool -> OpP
 | 0, _, b => ⟨false, b, 0, ReqP.none⟩
 | k + 1, t, b =>
   let n := ns.getD k NtP.none
   if n.thread.toNat = t then
    if n.kind = 1 then ⟨true, b, n.seq, n.req⟩
    else if b = true then ⟨decide (n.kind = 2), true, (entS ns k t true).seq, (entS ns k t true).req⟩
    else ⟨false, false, (entS ns k t false).seq, ReqP.none⟩
   else entS ns k t b
theorem ent_applied (ns : List NtP) (t : Nat) : ∀ k b, (entS ns k t b).applied = b
 | 0, b => rfl
 | k + 1, b => by
   unfold entS
   simp only
   split
   . split
     . rfl
     . cases b <;> simp
   . exact ent_applied ns t k b
theorem ent_eff (ns : List NtP) (t : Nat) : ∀ k, (entS ns k t false).on = true -> entS ns k t true = ⟨true, true, (entS ns k t false).seq, (entS ns k t false).req⟩
 | 0, h => by simp [entS] at h
 | k + 1, h => by
   unfold entS at h ⊢
   simp only at h ⊢
   by_cases e : (ns.getD k NtP.none).thread.toNat = t
   . simp only [if_pos e] at h ⊢
     by_cases e1 : (ns.getD k NtP.none).kind = 1
     . simp only [if_pos e1]
     . rw [if_neg e1] at h
       simp at h
   . simp only [if_neg e] at h ⊢
     exact ent_eff ns t k h
structure StOk (c : Cfg) (ns : List NtP) (p : StP) : Prop where
 at_ : p.at_ <= ns.length
 len : p.l.length = c.threads.toNat
 rec_ : p.rec_.length = (startO c).length
 ent : ∀ t, t < p.l.length -> p.l.getD t OpP.none = entS ns p.at_ t (p.l.getD t OpP.none).applied
theorem stOk_start (c : Cfg) (ns : List NtP) : StOk c ns ⟨0, startO c, List.replicate c.threads.toNat OpP.none⟩ where
 at_ := Nat.zero_le _
 len := by simp
 rec_ := rfl
 ent := fun t ht => by
  have : (List.replicate c.threads.toNat OpP.none).getD t OpP.none = OpP.none := by
   simp only [List.getD_eq_getElem?_getD, List.getElem?_replicate]
   split <;> rfl
  rw [this]
  rfl
theorem effK_memB {c : Cfg} {p s' : StP} : ∀ {n : Nat}, s' ∈ effK c p n -> ∃ k, k < n /\ (p.l.getD k OpP.none).on = true /\ (p.l.getD k OpP.none).applied = false /\ 0 < (p.l.getD k OpP.none).seq /\
  s' = ⟨p.at_, applyO c p.rec_ k (p.l.getD k OpP.none).seq (p.l.getD k OpP.none).req, p.l.set k ⟨(p.l.getD k OpP.none).on, true, (p.l.getD k OpP.none).seq, (p.l.getD k OpP.none).req⟩⟩
 | 0, h => by simp [effK] at h
 | n + 1, h => by
   unfold effK at h
   simp only [List.mem_append] at h
   rcases h with h | h
   . obtain ⟨k, hk, r⟩ := effK_memB h
     exact ⟨k, by omega, r⟩
   . split at h
     . rename_i h3
       simp only [List.mem_cons, List.not_mem_nil, or_false] at h
       exact ⟨n, by omega, h3.1, h3.2.1, h3.2.2, h⟩
     . simp at h
theorem StOk.next {c : Cfg} {ns : List NtP} {p : StP} (h : StOk c ns p) (hat : p.at_ < ns.length) {t : Nat} (hth : (ns.getD p.at_ NtP.none).thread.toNat = t) {y : OpP} (hy : y = entS ns (p.at_ + 1) t y.applied) : StOk c ns ⟨p.at_ + 1, p.rec_, p.l.set t y⟩ where
 at_ := hat
 len := by simpa using h.len
 rec_ := h.rec_
 ent := fun u hu => by
  have hu' : u < p.l.length := by simpa using hu
  by_cases e : u = t
  . subst e
    simp only [List.getD_eq_getElem?_getD, List.getElem?_set_self hu', Option.getD_some]
    exact hy
  . have e2 : (p.l.set t y).getD u OpP.none = p.l.getD u OpP.none := by
     simp only [List.getD_eq_getElem?_getD, List.getElem?_set_ne (Ne.symm e)]
    simp only
    rw [e2, h.ent u hu']
    rw [ent_applied]
    conv => rhs; unfold entS
    simp only
    rw [if_neg (by rw [hth]; exact Ne.symm e)]
theorem StOk.ways {c : Cfg} {ns : List NtP} {p s' : StP} (h : StOk c ns p) (hat : p.at_ < ns.length) (ht : (ns.getD p.at_ NtP.none).thread.toNat < p.l.length) (hm : s' ∈ waysS c ns p) : StOk c ns s' := by
 unfold waysS at hm
 simp only at hm
 generalize htt : (ns.getD p.at_ NtP.none).thread.toNat = t at *
 have hx := h.ent t ht
 generalize hxx : p.l.getD t OpP.none = x at *
 by_cases k1 : (ns.getD p.at_ NtP.none).kind = 1
 . rw [if_pos k1] at hm
   simp only [List.mem_cons, List.not_mem_nil, or_false] at hm
   subst hm
   exact h.next hat htt (by unfold entS; simp only; rw [if_pos htt, if_pos k1])
 . rw [if_neg k1] at hm
   by_cases k2 : x.applied = true /\ tellsB c p.rec_ (ns.getD p.at_ NtP.none) = true
   . rw [if_pos k2] at hm
     simp only [List.mem_cons, List.not_mem_nil, or_false] at hm
     subst hm
     rw [k2.1] at hx
     exact h.next hat htt (by unfold entS; simp only; rw [if_pos htt, if_neg k1, if_pos trivial, <- hx])
   . rw [if_neg k2] at hm
     rcases List.mem_append.1 hm with hm | hm
     . split at hm
       . rename_i k3
         simp only [List.mem_cons, List.not_mem_nil, or_false] at hm
         subst hm
         rw [k3.2] at hx
         exact h.next hat htt (by unfold entS; simp only; rw [if_pos htt, if_neg k1, if_neg (by decide), <- hx])
       . simp at hm
     . obtain ⟨k, hk, h1, h2, h3, rfl⟩ := effK_memB hm
       have hy := h.ent k hk
       rw [h2] at hy
       refine ⟨h.at_, by simpa using h.len, applyO_len.trans h.rec_, fun u hu => ?_⟩
       have hu' : u < p.l.length := by simpa using hu
       by_cases e : u = k
       . subst e
         simp only [List.getD_eq_getElem?_getD, List.getElem?_set_self hu', Option.getD_some]
         simp only [List.getD_eq_getElem?_getD] at hy h1
         rw [ent_eff ns u p.at_ (by rw [<- hy]; exact h1), <- hy, h1]
       . have e2 : ∀ y, (p.l.set k y).getD u OpP.none = p.l.getD u OpP.none := fun y => by
          simp only [List.getD_eq_getElem?_getD, List.getElem?_set_ne (Ne.symm e)]
         simp only
         rw [e2]
         exact h.ent u hu'
theorem StOk.same {c : Cfg} {ns : List NtP} {p q : StP} (hp : StOk c ns p) (hq : StOk c ns q) (h0 : ∀ x ∈ p.rec_, 0 <= x) (h1 : ∀ x ∈ q.rec_, 0 <= x) (h : stateNameS p = stateNameS q) : p = q := by
 obtain ⟨ha, hr, hl⟩ := name_inj (by rw [hp.rec_, hq.rec_]) (by rw [hp.len, hq.len]) h0 h1 h
 have hll : p.l.length = q.l.length := by rw [hp.len, hq.len]
 have : p.l = q.l := by
  apply List.ext_getElem hll
  intro i hi hj
  have e1 := hp.ent i hi
  have e2 := hq.ent i hj
  have e3 := List.getElem_of_eq hl (i := i) (by simpa using hi)
  simp only [List.getElem_map] at e3
  simp only [List.getD_eq_getElem?_getD, List.getElem?_eq_getElem hi, List.getElem?_eq_getElem hj, Option.getD_some] at e1 e2
  rw [e1, e2, ha, e3]
 obtain ⟨a, b, d⟩ := p
 obtain ⟨a', b', d'⟩ := q
 simp only at ha hr this
 rw [ha, hr, this]
section
open Go.RowKit Go.Sort Go.Maps
def MapB (w : World) (mb : Nat) : Prop := ∃ es clock, w.heap[mb]? = some (.map es clock)
theorem cell_noMap {w : World} {mb b o : Nat} {v : Value} (hm : MapB w mb) (h : w.cell? ⟨b, o, none⟩ = some v) : some b ≠ some mb := by
 rintro e
 injection e with e
 subst e
 obtain ⟨es, clock, hm⟩ := hm
 simp [World.cell?, hm] at h
theorem cell_keptM {w w' : World} {mb b o : Nat} {v : Value} (hm : MapB w mb) (hg : w.grownBy w' (some mb)) (hlt : b < w.heap.size) (h : w.cell? ⟨b, o, none⟩ = some v) : w'.cell? ⟨b, o, none⟩ = some v := by
 have hb := hg.block b hlt (cell_noMap hm h)
 simp only [World.cell?] at h ⊢
 rw [hb]; exact h
theorem Rd.keptM {w w' : World} {mb : Nat} {A : Option Addr} {xs : List Value} (h : Rd w A xs) (hm : MapB w mb) (hg : w.grownBy w' (some mb)) : Rd w' A xs := by
 rcases h with h | ⟨b, o, rfl, hlt, hc⟩
 . exact .inl h
 . exact .inr ⟨b, o, rfl, Nat.lt_of_lt_of_le hlt hg.size, fun k v hk => cell_keptM hm hg hlt (hc k v hk)⟩
theorem ReqAt.keptM {w w' : World} {mb : Nat} {q : Reqr} {l : List Cse} (h : ReqAt w q l) (hm : MapB w mb) (hg : w.grownBy w' (some mb)) : ReqAt w' q l := ⟨h.len, h.rd.keptM hm hg⟩
theorem OprIs.keptM {w w' : World} {mb : Nat} {x : Opr} {y : OpP} (h : OprIs w x y) (hm : MapB w mb) (hg : w.grownBy w' (some mb)) : OprIs w' x y := by
 obtain ⟨h1, h2, h3, cs, h4, h5, h6⟩ := h
 exact ⟨h1, h2, h3, cs, h4.keptM hm hg, h5, h6⟩
theorem StAt.keptM {w w' : World} {mb : Nat} {s : Str} {p : StP} (h : StAt w s p) (hm : MapB w mb) (hg : w.grownBy w' (some mb)) : StAt w' s p := by
 obtain ⟨L, h1, h2, h3⟩ := h.l
 exact ⟨h.at_, h.rn, h.rc, h.rb, h.rd.keptM hm hg, h.big, h.ln, h.lb, L, h1, h2.keptM hm hg, fun k hk => (h3 k hk).keptM hm hg⟩
theorem NtsAt.keptM {w w' : World} {mb : Nat} {NA : Option Addr} {NS : List Nte} {PS : List NtP} (h : NtsAt w NA NS PS) (hm : MapB w mb) (hg : w.grownBy w' (some mb)) : NtsAt w' NA NS PS :=
 ⟨h.rd.keptM hm hg, h.len, h.few, fun k hk => by
  obtain ⟨cs, h1, h2⟩ := h.is_ k hk
  exact ⟨cs, h1.keptM hm hg, h2⟩⟩
theorem CfgIn.keptM {w w' : World} {mb : Nat} {c : Cfg} (h : CfgIn w c) (hm : MapB w mb) (hg : w.grownBy w' (some mb)) : CfgIn w' c := ⟨h.1.keptM hm hg, h.2⟩
theorem Blk.keptM {w w' : World} {mb g : Nat} {t : TypeId} {cs : List Value} (h : Blk w g t cs) (hm : MapB w mb) (hg : w.grownBy w' (some mb)) : Blk w' g t cs := by
 refine blk_grown h hg ?_
 rintro e
 injection e with e
 subst e
 obtain ⟨es, clock, hm⟩ := hm
 have h2 : w.heap[g]? = some (.cells cs.toArray t (0, 0)) := h
 rw [hm] at h2
 cases h2
theorem Tz16.keptM {w w' : World} {mb : Nat} (h : Tz16 w) (hm : MapB w mb) (hg : w.grownBy w' (some mb)) : Tz16 w' := ⟨Nat.lt_of_lt_of_le h.1 hg.size, cell_keptM hm hg h.1 h.2⟩
structure NamesIs (D : DataW Unit) (T : List UInt8 -> Bool) : Prop where
 isMap : IsMap D
 at_ : ∀ s, D.atKey (.string s) (.lit (.bool false)) = .lit (.bool (T s))
theorem namesIs_empty : NamesIs (.map []) (fun _ => false) := ⟨isMap_empty, fun _ => rfl⟩
theorem NamesIs.put {D : DataW Unit} {T : List UInt8 -> Bool} (h : NamesIs D T) (s : List UInt8) : NamesIs (D.put (.string s) (.lit (.bool true))) (fun u => if u = s then true else T u) := by
 refine ⟨h.isMap.put _ _, fun u => ?_⟩
 by_cases hu : u = s
 . subst hu
   rw [if_pos rfl]
   exact atKey_put_same h.isMap (by exact True.intro) _ _
 . rw [if_neg hu, atKey_put_other (by intro e; injection e with e; exact hu e)]
   exact h.at_ u
end
theorem callsK_monoB (ns : List NtP) (k : Nat) : ∀ d, callsK ns k <= callsK ns (k + d)
 | 0 => Nat.le_refl _
 | d + 1 => Nat.le_trans (callsK_monoB ns k d) (by show _ <= callsK ns (k + d) + _; omega)
def pendB (y : OpP) : Bool := y.on && !y.applied
def fLeft (ns : List NtP) (p : StP) : Nat := p.l.countP pendB + (callsK ns ns.length - callsK ns p.at_)
theorem count_set (l : List OpP) {t : Nat} (ht : t < l.length) (y : OpP) : (l.set t y).countP pendB + (if pendB (l.getD t OpP.none) = true then 1 else 0) = l.countP pendB + (if pendB y = true then 1 else 0) := by
 have e : l.getD t OpP.none = l[t] := by simp [List.getD_eq_getElem?_getD, List.getElem?_eq_getElem ht]
 rw [e, List.countP_set ht]
 have : (if pendB l[t] = true then 1 else 0) <= l.countP pendB := by
  split
  . rename_i h
    exact List.countP_pos_iff.2 ⟨l[t], List.getElem_mem ht, h⟩
  . exact Nat.zero_le _
 omega
theorem ways_left {c : Cfg} {ns : List NtP} {p s' : StP} (hat : p.at_ < ns.length) (ht : (ns.getD p.at_ NtP.none).thread.toNat < p.l.length) (hm : s' ∈ waysS c ns p) :
  (s'.at_ = p.at_ + 1 /\ fLeft ns s' <= fLeft ns p) ∨ (s'.at_ = p.at_ /\ fLeft ns s' + 1 <= fLeft ns p) := by
 have hc : callsK ns (p.at_ + 1) = callsK ns p.at_ + (if (ns.getD p.at_ NtP.none).kind = 1 then 1 else 0) := rfl
 have hmono : callsK ns (p.at_ + 1) <= callsK ns ns.length := by
  have := callsK_monoB ns (p.at_ + 1) (ns.length - (p.at_ + 1))
  rwa [show p.at_ + 1 + (ns.length - (p.at_ + 1)) = ns.length by omega] at this
 unfold waysS at hm
 simp only at hm
 generalize (ns.getD p.at_ NtP.none).thread.toNat = t at *
 have hs := count_set p.l ht
 by_cases k1 : (ns.getD p.at_ NtP.none).kind = 1
 . rw [if_pos k1] at hm hc
   simp only [List.mem_cons, List.not_mem_nil, or_false] at hm
   subst hm
   left
   refine ⟨rfl, ?_⟩
   unfold fLeft
   have h := hs ⟨true, false, (ns.getD p.at_ NtP.none).seq, (ns.getD p.at_ NtP.none).req⟩
   rw [if_pos (show pendB ⟨true, false, _, _⟩ = true from rfl)] at h
   simp only
   split at h <;> omega
 . rw [if_neg k1] at hm hc
   by_cases k2 : (p.l.getD t OpP.none).applied = true /\ tellsB c p.rec_ (ns.getD p.at_ NtP.none) = true
   . rw [if_pos k2] at hm
     simp only [List.mem_cons, List.not_mem_nil, or_false] at hm
     subst hm
     left
     refine ⟨rfl, ?_⟩
     unfold fLeft
     have h := hs ⟨decide ((ns.getD p.at_ NtP.none).kind = 2), true, (p.l.getD t OpP.none).seq, (p.l.getD t OpP.none).req⟩
     rw [if_neg (show ¬ pendB ⟨decide ((ns.getD p.at_ NtP.none).kind = 2), true, _, _⟩ = true by simp [pendB])] at h
     simp only
     split at h <;> omega
   . rw [if_neg k2] at hm
     rcases List.mem_append.1 hm with hm | hm
     . split at hm
       . simp only [List.mem_cons, List.not_mem_nil, or_false] at hm
         subst hm
         left
         refine ⟨rfl, ?_⟩
         unfold fLeft
         have h := hs ⟨false, false, (p.l.getD t OpP.none).seq, ReqP.none⟩
         rw [if_neg (show ¬ pendB ⟨false, false, _, _⟩ = true by simp [pendB])] at h
         simp only
         split at h <;> omega
       . simp at hm
     . obtain ⟨k, hk, h1, h2, h3, rfl⟩ := effK_memB hm
       right
       refine ⟨rfl, ?_⟩
       unfold fLeft
       have h := count_set p.l hk ⟨(p.l.getD k OpP.none).on, true, (p.l.getD k OpP.none).seq, (p.l.getD k OpP.none).req⟩
       rw [if_pos (show pendB (p.l.getD k OpP.none) = true by unfold pendB; rw [h1, h2]; rfl), if_neg (show ¬ pendB ⟨_, true, _, _⟩ = true by simp [pendB])] at h
       simp only
       omega
end Go.Proofs.YtieglgahfeecbaaGreatDoor
