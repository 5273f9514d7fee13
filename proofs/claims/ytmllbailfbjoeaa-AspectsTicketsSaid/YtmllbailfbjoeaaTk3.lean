/- tickets: ends, ticket, again, walked. -/
import Derived.Test.YtmllbailfbjoeaaTk2
namespace Go.Proofs.Ytmllbailfbjoeaa
open Go.RowKit Go.Sort

/-- A thread's five cells are written. -/
theorem man_put5 {w : World} {g : Nat} {l : List Man} (h : Blk w g 113 (rows l)) {t : Nat} (ht : t < l.length) (y : Man) :
    Blk (((((w.setCell ⟨g, t * 5, none⟩ (.int .i64 y.pc)).setCell ⟨g, t * 5 + 1, none⟩ (.int .i64 y.seq)).setCell ⟨g, t * 5 + 2, none⟩ (.int .i64 y.value)).setCell ⟨g, t * 5 + 3, none⟩ (.int .i64 y.at_)).setCell ⟨g, t * 5 + 4, none⟩ (.int .i64 y.try_)) g 113 (rows (l.set t y)) ∧
    Keep (fun k => k = g) w (((((w.setCell ⟨g, t * 5, none⟩ (.int .i64 y.pc)).setCell ⟨g, t * 5 + 1, none⟩ (.int .i64 y.seq)).setCell ⟨g, t * 5 + 2, none⟩ (.int .i64 y.value)).setCell ⟨g, t * 5 + 3, none⟩ (.int .i64 y.at_)).setCell ⟨g, t * 5 + 4, none⟩ (.int .i64 y.try_)) := by
  generalize hx : l.getD t Man.none = x
  have hl : ∀ z : Man, t < (l.set t z).length := fun z => by simpa using ht
  have hg : ∀ z : Man, (l.set t z).getD t Man.none = z := fun z => by simp [List.getD, ht]
  have h0 := man_put h ht 0 (.int .i64 y.pc) ⟨y.pc, x.seq, x.value, x.at_, x.try_⟩ (by decide) (by rw [hx]; rfl)
  rw [Nat.add_zero] at h0
  have h1 := man_put h0 (hl _) 1 (.int .i64 y.seq) ⟨y.pc, y.seq, x.value, x.at_, x.try_⟩ (by decide) (by rw [hg]; rfl)
  rw [List.set_set] at h1
  have h2 := man_put h1 (hl _) 2 (.int .i64 y.value) ⟨y.pc, y.seq, y.value, x.at_, x.try_⟩ (by decide) (by rw [hg]; rfl)
  rw [List.set_set] at h2
  have h3 := man_put h2 (hl _) 3 (.int .i64 y.at_) ⟨y.pc, y.seq, y.value, y.at_, x.try_⟩ (by decide) (by rw [hg]; rfl)
  rw [List.set_set] at h3
  have h4 := man_put h3 (hl _) 4 (.int .i64 y.try_) y (by decide) (by rw [hg]; rfl)
  rw [List.set_set] at h4
  exact ⟨h4, (((((Keep.refl (fun k => k = g) w).set_ _ _ _ (.inr rfl)).set_ _ _ _ (.inr rfl)).set_ _ _ _ (.inr rfl)).set_ _ _ _ (.inr rfl)).set_ _ _ _ (.inr rfl)⟩

section
variable {gw gm gl gq B b0 sz tr : Nat} {q : TQ} {w w' : World} {cb : Option Nat} {cs : List Int} {AC : Option Addr} {cc : Nat} {AN : Option Addr} {cn : Nat}
theorem QAt.lowL (h : QAt gw gm gl gq B b0 sz tr q w cb cs AC cc AN cn) (hk : Keep (fun k => k = gl) w w') : Below b0 w w' := hk.below (fun k e => by have := h.low; omega) h.base
theorem QAt.lowQ (h : QAt gw gm gl gq B b0 sz tr q w cb cs AC cc AN cn) (hk : Keep (fun k => k = gq) w w') : Below b0 w w' := hk.below (fun k e => by have := h.low; omega) h.base
theorem QPost.from_ {w1 : World} (h : QPost gw gm gl gq B b0 sz tr q w1 w') (hb : Below b0 w w1) : QPost gw gm gl gq B b0 sz tr q w w' := ⟨h.1, hb.trans h.2⟩
/-- A thread stands elsewhere. -/
theorem QAt.manPost (h : QAt gw gm gl gq B b0 sz tr q w cb cs AC cc AN cn) {t : Nat} {y : Man} (hk : Keep (fun k => k = gl) w w') (hb : Blk w' gl 113 (rows (q.l.set t y))) : QPost gw gm gl gq B b0 sz tr (q.setM t y) w w' :=
  ⟨⟨_, _, _, _, _, _, h.setL (by simp) hk hb⟩, h.lowL hk⟩
theorem QAt.toIs (h : QAt gw gm gl gq B b0 sz tr q w cb cs AC cc AN cn) : QIs gw gm gl gq B b0 sz tr q w := ⟨_, _, _, _, _, _, h⟩
theorem QPost.drew {w1 : World} (h : QPost gw gm gl gq B b0 sz tr q w w1) : QPost gw gm gl gq B b0 sz tr q w w1.drew := by
  obtain ⟨⟨cb, cs, AC, cc, AN, cn, hq⟩, hb⟩ := h
  exact ⟨(hq.drewN 1).toIs, hb.os, hb.tape, hb.output, hb.size, hb.block⟩
end

set_option maxHeartbeats 8000000 in
set_option maxRecDepth 100000 in
theorem ends_any (gw gm gl gq B b0 sz tr : Nat) (q : TQ) (t : Nat) (code v : Int) (w : World) (ht : t < q.l.length) (hn : q.ns.length ≤ 4096) (hQ : QIs gw gm gl gq B b0 sz tr q w) :
    Calls Try.prog 121 #[.pointer (some ⟨gq, 0, none⟩), .int .i64 t, .int .i64 code, .int .i64 v] w (fun e w' => e = .returned (.tuple #[]) ∧ QPost gw gm gl gq B b0 sz tr (q.ends t code v) w w') := by
  have HN := Lib.hid (note_any gw gm gl gq B b0 sz tr q 3 t (q.man t).seq code v w ht hn hQ)
  have HT := Lib.hid ht
  obtain ⟨cb, cs, AC, cc, AN, cn, hQ⟩ := hQ
  obtain ⟨c0, c1, c2, c3, c4, c5⟩ := que_cells hQ.box
  generalize hx : q.l.getD t Man.none = x
  obtain ⟨m0, m1, m2, m3, m4⟩ := man_cells hQ.men ht hx
  have hmx : q.man t = x := hx
  rw [hmx] at HN
  have HX := Lib.hid hmx
  clear hx hmx hQ
  have q1 : (0 : Int) ≤ (t : Int) := by omega
  have q2 : (t : Int) < (q.l.length : Int) := by omega
  have HQE : RowKit.Hid (q.ends t code v = (q.note 3 t x.seq code v).setM t ⟨0, x.seq, 0, 0, 0⟩) := Lib.hid (by unfold TQ.ends; rw [HX.out])
  have HLL : RowKit.Hid ((q.note 3 t x.seq code v).l = q.l) := Lib.hid rfl
  generalize q.note 3 t x.seq code v = q' at *
  generalize hth : q.l.length = th at *
  have HTH := Lib.hid hth
  clear hth
  go_enter Try.func121, Try.ntmps121
  go_wp2_with fail
  refine HN.out.mono ?_
  rintro e w1 ⟨rfl, hP⟩
  clear c0 c1 c2 c3 c4 c5 m0 m1 m2 m3 m4 HN
  obtain ⟨⟨cb1, cs1, AC1, cc1, AN1, cn1, hQ1⟩, hB1⟩ := hP
  have ht1 : t < q'.l.length := by rw [HLL.out, HTH.out]; exact HT.out
  obtain ⟨c0, c1, c2, c3, c4, c5⟩ := que_cells hQ1.box
  rw [HLL.out, HTH.out] at c3
  obtain ⟨m0, m1, m2, m3, m4⟩ := man_cells hQ1.men ht1 (x := x) (by rw [HLL.out]; exact HX.out)
  have f0 := hQ1.men.frozen (t * 5)
  have f1 := hQ1.men.frozen (t * 5 + 1)
  have f2 := hQ1.men.frozen (t * 5 + 2)
  have f3 := hQ1.men.frozen (t * 5 + 3)
  have f4 := hQ1.men.frozen (t * 5 + 4)
  have HQ1 := Lib.hid hQ1
  have HB1 := Lib.hid hB1
  have HT1 := Lib.hid ht1
  clear hQ1 hB1 ht1
  go_upto_region 1 with (fail)
  go_region
  go_end0
  refine ⟨rfl, ?_⟩
  rw [HQE.out]
  obtain ⟨h5, hk⟩ := man_put5 HQ1.out.men HT1.out ⟨0, x.seq, 0, 0, 0⟩
  exact ((HQ1.out.manPost hk h5).from_ HB1.out).drew

set_option maxHeartbeats 8000000 in
set_option maxRecDepth 100000 in
theorem ticket_any (gw gm gl gq B b0 sz tr : Nat) (q : TQ) (t word : Nat) (next : Int) (w : World) (ht : t < q.l.length) (hl : q.l.length ≤ 64) (hn : q.ns.length ≤ 4096) (hsz : sz ≤ 4096) (hwl : q.ws.length ≤ 1048576) (hword : word < q.ws.length) (hw0 : 0 ≤ q.word word) (hw1 : q.word word ≤ 17179869184) (hQ : QIs gw gm gl gq B b0 sz tr q w) :
    Calls Try.prog 119 #[.pointer (some ⟨gq, 0, none⟩), .int .i64 t, .int .i64 word, .int .i64 next] w (fun e w' => e = .returned (.tuple #[]) ∧ QPost gw gm gl gq B b0 sz tr (q.ticket sz t word next) w w') := by
  obtain ⟨cb, cs, AC, cc, AN, cn, hQ⟩ := hQ
  have HA := Lib.hid (Add_any gw gm B cb q.ws cs AC cc t word 1 w (by omega) hword hwl hQ.mem hw0 (by omega) (by show q.word word + 1 < _; omega))
  have HEN := Lib.hid (fun W h => ends_any gw gm gl gq B b0 sz tr (q.setW word (q.word word + 1)) t 6 0 W ht hn h)
  have HT := Lib.hid ht
  obtain ⟨c0, c1, c2, c3, c4, c5⟩ := que_cells hQ.box
  have HQ := Lib.hid hQ
  have HTK : RowKit.Hid (q.ticket sz t word next = if (sz : Int) ≤ q.word word then (q.setW word (q.word word + 1)).ends t 6 0 else (q.setW word (q.word word + 1)).setM t ⟨next, (q.man t).seq, (q.man t).value, q.word word, (q.man t).try_⟩) := Lib.hid rfl
  have hnw : q.ws.getD word 0 = q.word word := rfl
  rw [hnw] at HA
  generalize hx : q.l.getD t Man.none = x
  have HX := Lib.hid (show q.man t = x from hx)
  clear hx hQ hnw
  have q1 : (0 : Int) ≤ (t : Int) := by omega
  have q2 : (t : Int) < (q.l.length : Int) := by omega
  generalize hth : q.l.length = th at *
  have HTH := Lib.hid hth
  clear hth
  generalize q.word word = n at *
  have s1 : (0 : Int) ≤ (sz : Int) := by omega
  have s2 : (sz : Int) < 18446744073709551616 := by omega
  have s3 : n < 9223372036854775808 := by omega
  go_enter Try.func119, Try.ntmps119
  go_wp2_with fail
  refine HA.out.mono ?_
  rintro e w1 ⟨rfl, hP⟩
  clear c0 c1 c2 c3 c4 c5 HA
  have hQ1 := HQ.out.words hP
  obtain ⟨⟨cb1, cs1, AC1, cc1, AN1, cn1, hQ1⟩, hB1⟩ := hQ1
  have HQ1 := Lib.hid (show QAt gw gm gl gq B b0 sz tr (q.setW word (n + 1)) w1 cb1 cs1 AC1 cc1 AN1 cn1 from hQ1)
  have HB1 := Lib.hid hB1
  clear hP HQ hQ1 hB1
  have HLL : RowKit.Hid ((q.setW word (n + 1)).l = q.l) := Lib.hid rfl
  generalize q.setW word (n + 1) = q' at *
  obtain ⟨c0, c1, c2, c3, c4, c5⟩ := que_cells HQ1.out.box
  rw [HLL.out, HTH.out] at c3
  have HT1 := Lib.hid (show t < q'.l.length by rw [HLL.out, HTH.out]; exact HT.out)
  obtain ⟨m0, m1, m2, m3, m4⟩ := man_cells HQ1.out.men HT1.out (x := x) (by rw [HLL.out]; exact HX.out)
  have f0 := HQ1.out.men.frozen (t * 5)
  have f3 := HQ1.out.men.frozen (t * 5 + 3)
  by_cases hc : (sz : Int) ≤ n
  · have HC := Lib.hid hc
    have hd : decide (n ≥ (sz : Int)) = true := by simpa using hc
    go_wp2_with fail
    refine (HEN.out _ HQ1.out.toIs).mono ?_
    rintro e w2 ⟨rfl, hP⟩
    have HP := Lib.hid hP
    clear hP
    go_wp2
    refine bodyPost_ret (results_none rfl _ _ _) rfl ⟨rfl, ?_⟩
    rw [HTK.out, if_pos HC.out]
    exact HP.out.from_ HB1.out
  · have HC := Lib.hid hc
    have hd : decide (n ≥ (sz : Int)) = false := by simpa using hc
    go_upto_region 3 with (fail)
    go_region
    go_end0
    refine ⟨rfl, ?_⟩
    rw [HTK.out, if_neg (by have := HC.out; omega), HX.out]
    have h3 := man_put HQ1.out.men HT1.out 3 (.int .i64 n) ⟨x.pc, x.seq, x.value, n, x.try_⟩ (by decide) (by rw [HLL.out, show q.l.getD t Man.none = x from HX.out]; rfl)
    have h0 := man_put h3 (by simpa using HT1.out) 0 (.int .i64 next) ⟨next, x.seq, x.value, n, x.try_⟩ (by decide) (by simp [List.getD, HT1.out, Man.cells])
    rw [Nat.add_zero, List.set_set] at h0
    have hk : Keep (fun k => k = gl) w1 ((w1.setCell ⟨gl, t * 5 + 3, none⟩ (.int .i64 n)).setCell ⟨gl, t * 5, none⟩ (.int .i64 next)) := ((Keep.refl (fun k => k = gl) w1).set_ _ _ _ (.inr rfl)).set_ _ _ _ (.inr rfl)
    exact ((HQ1.out.manPost hk h0).from_ HB1.out).drew

set_option maxHeartbeats 8000000 in
set_option maxRecDepth 100000 in
theorem again_any (gw gm gl gq B b0 sz tr : Nat) (q : TQ) (t : Nat) (pc : Int) (w : World) (ht : t < q.l.length) (hn : q.ns.length ≤ 4096) (ht0 : 0 ≤ (q.man t).try_) (ht1 : (q.man t).try_ ≤ 64) (hQ : QIs gw gm gl gq B b0 sz tr q w) :
    Calls Try.prog 122 #[.pointer (some ⟨gq, 0, none⟩), .int .i64 t, .int .i64 pc] w (fun e w' => e = .returned (.tuple #[]) ∧ QPost gw gm gl gq B b0 sz tr (q.again tr t pc) w w') := by
  obtain ⟨cb, cs, AC, cc, AN, cn, hQ⟩ := hQ
  have HEN := Lib.hid (fun W h => ends_any gw gm gl gq B b0 sz tr (q.setM t ⟨pc, (q.man t).seq, (q.man t).value, (q.man t).at_, (q.man t).try_ + 1⟩) t 6 0 W (by simpa [TQ.setM] using ht) hn h)
  have HT := Lib.hid ht
  have HTK : RowKit.Hid (q.again tr t pc = if (q.man t).try_ + 1 = tr then (q.setM t ⟨pc, (q.man t).seq, (q.man t).value, (q.man t).at_, (q.man t).try_ + 1⟩).ends t 6 0 else q.setM t ⟨pc, (q.man t).seq, (q.man t).value, (q.man t).at_, (q.man t).try_ + 1⟩) := Lib.hid rfl
  obtain ⟨c0, c1, c2, c3, c4, c5⟩ := que_cells hQ.box
  have HQ := Lib.hid hQ
  generalize hx : q.l.getD t Man.none = x
  obtain ⟨m0, m1, m2, m3, m4⟩ := man_cells hQ.men ht hx
  have f0 := hQ.men.frozen (t * 5)
  have f4 := hQ.men.frozen (t * 5 + 4)
  have hmx : q.man t = x := hx
  rw [hmx] at HEN HTK ht0 ht1
  have HX := Lib.hid hmx
  have hne := blk_ne hQ.box hQ.men (by decide)
  have hne2 := fun e => hne (Eq.symm e)
  clear hx hQ hmx
  have q1 : (0 : Int) ≤ (t : Int) := by omega
  have q2 : (t : Int) < (q.l.length : Int) := by omega
  generalize hth : q.l.length = th at *
  have HTH := Lib.hid hth
  clear hth
  have HPUT : RowKit.Hid (QPost gw gm gl gq B b0 sz tr (q.setM t ⟨pc, x.seq, x.value, x.at_, x.try_ + 1⟩) w ((w.setCell ⟨gl, t * 5 + 4, none⟩ (.int .i64 (x.try_ + 1))).setCell ⟨gl, t * 5, none⟩ (.int .i64 pc))) := Lib.hid (by
    have ht' : t < q.l.length := by rw [HTH.out]; exact HT.out
    have h3 := man_put HQ.out.men ht' 4 (.int .i64 (x.try_ + 1)) ⟨x.pc, x.seq, x.value, x.at_, x.try_ + 1⟩ (by decide) (by rw [show q.l.getD t Man.none = x from HX.out]; rfl)
    have h0 := man_put h3 (by simpa using ht') 0 (.int .i64 pc) ⟨pc, x.seq, x.value, x.at_, x.try_ + 1⟩ (by decide) (by simp [List.getD, ht', Man.cells])
    rw [Nat.add_zero, List.set_set] at h0
    exact HQ.out.manPost (((Keep.refl (fun k => k = gl) w).set_ _ _ _ (.inr rfl)).set_ _ _ _ (.inr rfl)) h0)
  have HM' : RowKit.Hid ((q.setM t ⟨pc, x.seq, x.value, x.at_, x.try_ + 1⟩).l.getD t Man.none = ⟨pc, x.seq, x.value, x.at_, x.try_ + 1⟩ ∧ t < (q.setM t ⟨pc, x.seq, x.value, x.at_, x.try_ + 1⟩).l.length) := Lib.hid (by
    have ht' : t < q.l.length := by rw [HTH.out]; exact HT.out
    exact ⟨by simp [TQ.setM, List.getD, ht'], by simpa [TQ.setM] using ht'⟩)
  generalize q.setM t ⟨pc, x.seq, x.value, x.at_, x.try_ + 1⟩ = q' at *
  go_enter Try.func122, Try.ntmps122
  go_upto_region 3 with (fail)
  clear c0 c1 c2 c3 c4 c5 m0 m1 m2 m3 m4 f0 f4 hne hne2
  generalize (w.setCell ⟨gl, t * 5 + 4, none⟩ (.int .i64 (x.try_ + 1))).setCell ⟨gl, t * 5, none⟩ (.int .i64 pc) = w1 at *
  obtain ⟨⟨cb1, cs1, AC1, cc1, AN1, cn1, hQ1⟩, hB1⟩ := HPUT.out
  obtain ⟨c0, c1, c2, c3, c4, c5⟩ := que_cells hQ1.box
  obtain ⟨m0, m1, m2, m3, m4⟩ := man_cells hQ1.men HM'.out.2 HM'.out.1
  have HQ1 := Lib.hid hQ1
  have HB1 := Lib.hid hB1
  clear hQ1 hB1 c0 c1 c3 c4 c5 m0 m1 m2 m3
  by_cases hc : x.try_ + 1 = tr
  · have HC := Lib.hid hc
    have hd : (x.try_ + 1 == (tr : Int)) = true := by simpa using hc
    go_quiet (fail)
    go_wp2_with fail
    refine (HEN.out _ (HQ1.out.drewN _).toIs).mono ?_
    rintro e w2 ⟨rfl, hP⟩
    have HP := Lib.hid hP
    clear hP
    go_wp2
    go_end0
    refine ⟨rfl, ?_⟩
    rw [HTK.out, if_pos HC.out]
    exact HP.out.from_ (Below.drewN' HB1.out _)
  · have HC := Lib.hid hc
    have hd : (x.try_ + 1 == (tr : Int)) = false := by simpa using hc
    go_quiet (fail)
    go_wp2
    go_end0
    refine ⟨rfl, ?_⟩
    rw [HTK.out, if_neg HC.out]
    exact ⟨(HQ1.out.drewN _).toIs, Below.drewN' HB1.out _⟩

end Go.Proofs.Ytmllbailfbjoeaa
