/- tickets: begin, Put, Take, walked. -/
import Derived.Test.YtmllbailfbjoeaaTk3
namespace Go.Proofs.Ytmllbailfbjoeaa
open Go.RowKit Go.Sort

/-- Behind a call that hands back a number, whichever. -/
def QPostE (gw gm gl gq B b0 sz tr : Nat) (q : TQ) (w : World) (e : Ending) (w' : World) : Prop := (∃ c, e = .returned (.int .i64 c)) ∧ QPost gw gm gl gq B b0 sz tr q w w'

theorem manBox {w : World} {g : Nat} {y : Man} (h : Blk w g 113 y.cells) :
    w.cell? ⟨g, 0, none⟩ = some (.int .i64 y.pc) ∧ w.cell? ⟨g, 1, none⟩ = some (.int .i64 y.seq) ∧ w.cell? ⟨g, 2, none⟩ = some (.int .i64 y.value) ∧ w.cell? ⟨g, 3, none⟩ = some (.int .i64 y.at_) ∧ w.cell? ⟨g, 4, none⟩ = some (.int .i64 y.try_) :=
  ⟨h.cell rfl, h.cell rfl, h.cell rfl, h.cell rfl, h.cell rfl⟩

set_option maxHeartbeats 8000000 in
set_option maxRecDepth 100000 in
theorem begin_bad (gw gm gl gq B b0 sz tr : Nat) (q : TQ) (t : Int) (y : Man) (w : World) (ht : t < 0 ∨ (q.l.length : Int) ≤ t) (hQ : QIs gw gm gl gq B b0 sz tr q w) :
    Calls Try.prog 99 #[.pointer (some ⟨gq, 0, none⟩), .int .i64 t, manV y] w (QPostE gw gm gl gq B b0 sz tr q w) := by
  obtain ⟨cb, cs, AC, cc, AN, cn, hQ⟩ := hQ
  have HQ := Lib.hid hQ
  have HM := Lib.hid (fun W hb => tmade_any gq gm sz tr gl q.l.length q.ns.length cn AN q.time t W hb)
  have e1 : madeE q.l.length t = 1 := if_pos ht
  rw [e1] at HM
  clear hQ ht e1
  go_enter Try.func99, Try.ntmps99
  go_wp2_with fail
  refine (HM.out _ (HQ.out.alloc _).box).mono ?_
  rintro e w1 ⟨rfl, hb1⟩
  have HB1 := Lib.hid hb1
  clear hb1
  go_wp2
  go_ret
  exact ⟨⟨_, rfl⟩, ((HQ.out.alloc _).below HB1.out).toIs, (((Below.refl _ _).alloc (Nat.le_refl _) _).mono HQ.out.base).trans (HB1.out.mono (Nat.le_trans HQ.out.base (by simp)))⟩

set_option maxHeartbeats 8000000 in
set_option maxRecDepth 100000 in
theorem begin_any (gw gm gl gq B b0 sz tr : Nat) (q : TQ) (t : Nat) (pc v : Int) (w : World) (ht : t < q.l.length) (hn : q.ns.length ≤ 4096) (hs0 : 0 ≤ (q.man t).seq) (hs1 : (q.man t).seq ≤ 1048576) (hm0 : 0 ≤ q.time) (hm1 : q.time ≤ 1048576) (hQ : QIs gw gm gl gq B b0 sz tr q w) :
    Calls Try.prog 99 #[.pointer (some ⟨gq, 0, none⟩), .int .i64 t, manV ⟨pc, 0, v, 0, 0⟩] w (QPostE gw gm gl gq B b0 sz tr (q.begin t pc v) w) := by
  obtain ⟨cb, cs, AC, cc, AN, cn, hQ⟩ := hQ
  have HM := Lib.hid (fun W hb => tmade_any gq gm sz tr gl q.l.length q.ns.length cn AN q.time t W hb)
  have e1 : madeE q.l.length t = 0 := if_neg (by omega)
  rw [e1] at HM
  have HNT := Lib.hid (fun W h => note_any gw gm gl gq B b0 sz tr (q.setM t ⟨pc, (q.man t).seq + 1, v, 0, 0⟩).tic 1 t 0 0 0 W (by simpa [TQ.setM, TQ.tic] using ht) hn h)
  have HBG : RowKit.Hid (q.begin t pc v = if (q.man t).pc ≠ 0 ∨ 1048575 ≤ (q.man t).seq then q else (q.setM t ⟨pc, (q.man t).seq + 1, v, 0, 0⟩).tic.note 1 t 0 0 0) := Lib.hid rfl
  have HT := Lib.hid ht
  have HQ := Lib.hid hQ
  generalize hx : q.l.getD t Man.none = x
  have hmx : q.man t = x := hx
  rw [hmx] at HNT HBG hs0 hs1
  have HX := Lib.hid hmx
  clear hx hmx hQ e1
  have q1 : (0 : Int) ≤ (t : Int) := by omega
  have q2 : (t : Int) < (q.l.length : Int) := by omega
  go_enter Try.func99, Try.ntmps99
  go_wp2_with fail
  refine (HM.out _ (HQ.out.alloc _).box).mono ?_
  rintro e w1 ⟨rfl, hb1⟩
  have HQ1 := Lib.hid ((HQ.out.alloc (.cells #[.int .i64 pc, .int .i64 0, .int .i64 v, .int .i64 0, .int .i64 0] 113)).below hb1)
  have HB1 := Lib.hid (show Below w.heap.size w w1 from ((Below.refl _ _).alloc (Nat.le_refl _) _).trans (hb1.mono (by simp)))
  have HX1 := Lib.hid (show Blk w1 w.heap.size 113 (Man.cells ⟨pc, 0, v, 0, 0⟩) from (Blk.new w 113 (Man.cells ⟨pc, 0, v, 0, 0⟩)).below hb1 (by simp))
  have HFR := Lib.hid (HQ.out.fresh (Nat.le_refl _))
  have HBS := Lib.hid HQ.out.base
  clear hb1 HM HQ
  generalize w.heap.size = gx at *
  obtain ⟨c0, c1, c2, c3, c4, c5⟩ := que_cells HQ1.out.box
  obtain ⟨m0, m1, m2, m3, m4⟩ := man_cells HQ1.out.men HT.out HX.out
  obtain ⟨x0, x1, x2, x3, x4⟩ := manBox HX1.out
  have g1 := HX1.out.frozen 1
  by_cases hp : x.pc = 0
  · by_cases hs : 1048575 ≤ x.seq
    · have b1 : (x.pc != 0) = false := by simp [hp]
      have b2 : decide (x.seq ≥ 1048575) = true := by simpa using hs
      have HC := Lib.hid (show x.pc ≠ 0 ∨ 1048575 ≤ x.seq from .inr hs)
      clear hp hs
      go_wp2
      go_ret
      refine ⟨⟨_, rfl⟩, ?_⟩
      rw [HBG.out, if_pos HC.out]
      exact ⟨HQ1.out.toIs, HB1.out.mono HBS.out⟩
    · have b1 : (x.pc != 0) = false := by simp [hp]
      have b2 : decide (x.seq ≥ 1048575) = false := by simpa using hs
      have HC := Lib.hid (show ¬ (x.pc ≠ 0 ∨ 1048575 ≤ x.seq) by omega)
      clear hp
      go_upto_region 7 with (fail)
      have hK2 : Keep (fun k => k = gx) w1 (w1.setCell ⟨gx, 1, none⟩ (.int .i64 (x.seq + 1))) := (Keep.refl (fun k => k = gx) w1).set_ _ _ _ (.inr rfl)
      have HQ2 := Lib.hid (HQ1.out.other hK2 HFR.out.1 HFR.out.2.1 HFR.out.2.2)
      have HX2 := Lib.hid (show Blk (w1.setCell ⟨gx, 1, none⟩ (.int .i64 (x.seq + 1))) gx 113 (Man.cells ⟨pc, x.seq + 1, v, 0, 0⟩) from HX1.out.set_ 1 (.int .i64 (x.seq + 1)))
      have HB2 := Lib.hid (show Below b0 w _ from (HB1.out.mono HBS.out).trans (hK2.below (B := b0) (fun k e => by have := HBS.out; omega) HQ1.out.base))
      clear hK2 HQ1 HX1 HB1 c0 c1 c2 c3 c4 c5 m0 m1 m2 m3 m4 x0 x1 x2 x3 x4 g1
      generalize w1.setCell ⟨gx, 1, none⟩ (.int .i64 (x.seq + 1)) = w2 at *
      obtain ⟨c0, c1, c2, c3, c4, c5⟩ := que_cells HQ2.out.box
      obtain ⟨m0, m1, m2, m3, m4⟩ := man_cells HQ2.out.men HT.out HX.out
      obtain ⟨x0, x1, x2, x3, x4⟩ := manBox HX2.out
      have f0 := HQ2.out.men.frozen (t * 5)
      have f1 := HQ2.out.men.frozen (t * 5 + 1)
      have f2 := HQ2.out.men.frozen (t * 5 + 2)
      have f3 := HQ2.out.men.frozen (t * 5 + 3)
      have f4 := HQ2.out.men.frozen (t * 5 + 4)
      go_region
      clear c0 c1 c2 c3 c4 c5 m0 m1 m2 m3 m4 x0 x1 x2 x3 x4 f0 f1 f2 f3 f4
      have HP3 : RowKit.Hid (QPost gw gm gl gq B b0 sz tr (q.setM t ⟨pc, x.seq + 1, v, 0, 0⟩) w2 _) := Lib.hid (by
        obtain ⟨h5, hk⟩ := man_put5 HQ2.out.men HT.out ⟨pc, x.seq + 1, v, 0, 0⟩
        exact (HQ2.out.manPost hk h5).drew)
      have HTT : RowKit.Hid ((q.setM t ⟨pc, x.seq + 1, v, 0, 0⟩).time = q.time) := Lib.hid rfl
      have HTC : RowKit.Hid ((q.setM t ⟨pc, x.seq + 1, v, 0, 0⟩).tic = { (q.setM t ⟨pc, x.seq + 1, v, 0, 0⟩) with time := q.time + 1 }) := Lib.hid rfl
      generalize (((((w2.setCell ⟨gl, t * 5, none⟩ (.int .i64 pc)).setCell ⟨gl, t * 5 + 1, none⟩ (.int .i64 (x.seq + 1))).setCell ⟨gl, t * 5 + 2, none⟩ (.int .i64 v)).setCell ⟨gl, t * 5 + 3, none⟩ (.int .i64 0)).setCell ⟨gl, t * 5 + 4, none⟩ (.int .i64 0)).drew = w3 at *
      generalize q.setM t ⟨pc, x.seq + 1, v, 0, 0⟩ = q' at *
      obtain ⟨⟨cb3, cs3, AC3, cc3, AN3, cn3, hQ3⟩, hB3⟩ := HP3.out
      have HQ3 := Lib.hid hQ3
      have HB3 := Lib.hid (HB2.out.trans hB3)
      obtain ⟨_, _, _, _, _, c5⟩ := que_cells hQ3.box
      rw [HTT.out] at c5
      have f5 := hQ3.box.frozen 5
      have HQ4 := Lib.hid (hQ3.setT (q.time + 1))
      rw [← HTC.out] at HQ4
      have HB4 := Lib.hid (show Below b0 w _ from HB3.out.trans (hQ3.lowQ ((Keep.refl (fun k => k = gq) w3).set_ gq 5 (.int .i64 (q.time + 1)) (.inr rfl))))
      clear hQ3 hB3 HP3
      go_wp2_with fail
      refine (HNT.out _ HQ4.out.toIs).mono ?_
      rintro e w4 ⟨rfl, hP⟩
      have HP := Lib.hid hP
      clear hP
      go_wp2
      go_ret
      refine ⟨⟨_, rfl⟩, ?_⟩
      rw [HBG.out, if_neg HC.out]
      exact HP.out.from_ HB4.out
  · have b1 : (x.pc != 0) = true := by simpa using hp
    have HC := Lib.hid (show x.pc ≠ 0 ∨ 1048575 ≤ x.seq from .inl hp)
    clear hp
    go_wp2
    go_ret
    refine ⟨⟨_, rfl⟩, ?_⟩
    rw [HBG.out, if_pos HC.out]
    exact ⟨HQ1.out.toIs, HB1.out.mono HBS.out⟩

/-- What a begin does, of any thread. -/
def TQ.beginI (q : TQ) (t pc v : Int) : TQ := if t < 0 ∨ (q.l.length : Int) ≤ t then q else q.begin t.toNat pc v

theorem beginI_any (gw gm gl gq B b0 sz tr : Nat) (q : TQ) (t : Int) (pc v : Int) (w : World) (hn : q.ns.length ≤ 4096) (hs : ∀ t, t < q.l.length → 0 ≤ (q.man t).seq ∧ (q.man t).seq ≤ 1048576) (hm0 : 0 ≤ q.time) (hm1 : q.time ≤ 1048576) (hQ : QIs gw gm gl gq B b0 sz tr q w) :
    Calls Try.prog 99 #[.pointer (some ⟨gq, 0, none⟩), .int .i64 t, manV ⟨pc, 0, v, 0, 0⟩] w (QPostE gw gm gl gq B b0 sz tr (q.beginI t pc v) w) := by
  unfold TQ.beginI
  by_cases h : t < 0 ∨ (q.l.length : Int) ≤ t
  · rw [if_pos h]
    exact begin_bad gw gm gl gq B b0 sz tr q t _ w h hQ
  · rw [if_neg h]
    have ht : t.toNat < q.l.length := by omega
    have := begin_any gw gm gl gq B b0 sz tr q t.toNat pc v w ht hn (hs _ ht).1 (hs _ ht).2 hm0 hm1 hQ
    rwa [Int.toNat_of_nonneg (by omega)] at this

set_option maxHeartbeats 8000000 in
set_option maxRecDepth 100000 in
theorem Take_any (gw gm gl gq B b0 sz tr : Nat) (q : TQ) (t : Int) (w : World) (hn : q.ns.length ≤ 4096) (hs : ∀ t, t < q.l.length → 0 ≤ (q.man t).seq ∧ (q.man t).seq ≤ 1048576) (hm0 : 0 ≤ q.time) (hm1 : q.time ≤ 1048576) (hQ : QIs gw gm gl gq B b0 sz tr q w) :
    Calls Try.prog 60 #[.pointer (some ⟨gq, 0, none⟩), .int .i64 t] w (QPostE gw gm gl gq B b0 sz tr (q.beginI t 3 0) w) := by
  have HB := Lib.hid (beginI_any gw gm gl gq B b0 sz tr q t 3 0 w hn hs hm0 hm1 hQ)
  clear hs hQ
  go_enter Try.func60, Try.ntmps60
  go_wp2_with fail
  refine HB.out.mono ?_
  rintro e w1 ⟨⟨c, rfl⟩, hP⟩
  have HP := Lib.hid hP
  clear hP
  go_wp2
  go_ret
  exact ⟨⟨_, rfl⟩, HP.out⟩

set_option maxHeartbeats 8000000 in
set_option maxRecDepth 100000 in
theorem Put_any (gw gm gl gq B b0 sz tr : Nat) (q : TQ) (t v : Int) (w : World) (hn : q.ns.length ≤ 4096) (hs : ∀ t, t < q.l.length → 0 ≤ (q.man t).seq ∧ (q.man t).seq ≤ 1048576) (hm0 : 0 ≤ q.time) (hm1 : q.time ≤ 1048576) (hQ : QIs gw gm gl gq B b0 sz tr q w) :
    Calls Try.prog 59 #[.pointer (some ⟨gq, 0, none⟩), .int .i64 t, .int .i64 v] w (QPostE gw gm gl gq B b0 sz tr (if v < 0 ∨ 4294967295 < v then q else q.beginI t 1 v) w) := by
  have HB := Lib.hid (fun W h => beginI_any gw gm gl gq B b0 sz tr q t 1 v W hn hs hm0 hm1 h)
  obtain ⟨cb, cs, AC, cc, AN, cn, hQ⟩ := hQ
  have HM := Lib.hid (tmade_any gq gm sz tr gl q.l.length q.ns.length cn AN q.time t w hQ.box)
  have HQ := Lib.hid hQ
  have HI : RowKit.Hid (q.beginI t 1 v = if t < 0 ∨ (q.l.length : Int) ≤ t then q else q.begin t.toNat 1 v) := Lib.hid rfl
  clear hs hQ
  by_cases hb : t < 0 ∨ (q.l.length : Int) ≤ t
  · rw [show madeE q.l.length t = 1 from if_pos hb] at HM
    rw [HI.out, if_pos hb, ite_self]
    clear hb
    go_enter Try.func59, Try.ntmps59
    go_wp2_with fail
    refine HM.out.mono ?_
    rintro e w1 ⟨rfl, hb1⟩
    have HB1 := Lib.hid hb1
    clear hb1
    go_wp2
    go_ret
    exact ⟨⟨_, rfl⟩, (HQ.out.below HB1.out).toIs, HB1.out.mono HQ.out.base⟩
  · rw [show madeE q.l.length t = 0 from if_neg hb] at HM
    clear hb
    by_cases h1 : v < 0
    · have HC := Lib.hid (show v < 0 ∨ 4294967295 < v from .inl h1)
      rw [if_pos HC.out]
      have d1 : decide (v < 0) = true := by simpa using h1
      clear h1
      go_enter Try.func59, Try.ntmps59
      go_wp2_with fail
      refine HM.out.mono ?_
      rintro e w1 ⟨rfl, hb1⟩
      have HB1 := Lib.hid hb1
      clear hb1
      go_wp2
      go_ret
      exact ⟨⟨_, rfl⟩, (HQ.out.below HB1.out).toIs, HB1.out.mono HQ.out.base⟩
    · have d1 : decide (v < 0) = false := by simpa using h1
      by_cases h2 : 4294967295 < v
      · have HC := Lib.hid (show v < 0 ∨ 4294967295 < v from .inr h2)
        rw [if_pos HC.out]
        have d2 : decide (v > 4294967295) = true := by simpa using h2
        clear h1 h2
        go_enter Try.func59, Try.ntmps59
        go_wp2_with fail
        refine HM.out.mono ?_
        rintro e w1 ⟨rfl, hb1⟩
        have HB1 := Lib.hid hb1
        clear hb1
        go_wp2
        go_ret
        exact ⟨⟨_, rfl⟩, (HQ.out.below HB1.out).toIs, HB1.out.mono HQ.out.base⟩
      · have HC := Lib.hid (show ¬ (v < 0 ∨ 4294967295 < v) by omega)
        rw [if_neg HC.out]
        have d2 : decide (v > 4294967295) = false := by simpa using h2
        clear h1 h2
        go_enter Try.func59, Try.ntmps59
        go_wp2_with fail
        refine HM.out.mono ?_
        rintro e w1 ⟨rfl, hb1⟩
        have HQ1 := Lib.hid (HQ.out.below hb1)
        have HB1 := Lib.hid (hb1.mono HQ.out.base)
        clear hb1
        go_wp2_with fail
        refine (HB.out _ HQ1.out.toIs).mono ?_
        rintro e w2 ⟨⟨c, rfl⟩, hP⟩
        have HP := Lib.hid hP
        clear hP
        go_wp2
        go_ret
        exact ⟨⟨_, rfl⟩, HP.out.from_ HB1.out⟩

end Go.Proofs.Ytmllbailfbjoeaa
