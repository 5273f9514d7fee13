/- tickets: step, Pick, walked. -/
import Derived.Test.YtmllbailfbjoeaaTk5
namespace Go.Proofs.Ytmllbailfbjoeaa
open Go.RowKit Go.Sort

/-- What a step of a thread needs. -/
structure SOk (sz : Nat) (q : TQ) (t : Nat) : Prop where
  ht : t < q.l.length
  hl : q.l.length ≤ 64
  hn : q.ns.length ≤ 4096
  hsz : sz ≤ 4096
  hws : q.ws.length = sz + 2
  hw : ∀ k, 0 ≤ q.word k ∧ q.word k ≤ 17179869184
  hat : 0 ≤ (q.man t).at_ ∧ (q.man t).at_ < sz
  hv : 0 ≤ (q.man t).value ∧ (q.man t).value ≤ 4294967295
  hy : 0 ≤ (q.man t).try_ ∧ (q.man t).try_ ≤ 64
  h5 : (q.man t).pc = 5 → 2 ≤ q.word (q.cellAt t)

theorem wrap_u {x : Int} (h0 : 0 ≤ x) (h1 : x ≤ 4294967295) : IntKind.u64.wrap (IntKind.u64.wrap x + 2) = x + 2 := by
  rw [IntWalk.u64_in x (by omega), IntWalk.u64_in (x + 2) (by omega)]

section
variable {gw gm gl gq B b0 sz tr : Nat} {q : TQ} {t : Nat} {w : World}

set_option maxHeartbeats 8000000 in
set_option maxRecDepth 100000 in
theorem step1_any (ho : SOk sz q t) (hp : (q.man t).pc = 1 ∨ (q.man t).pc = 3) (hQ : QIs gw gm gl gq B b0 sz tr q w) :
    Calls Try.prog 100 #[.pointer (some ⟨gq, 0, none⟩), .int .i64 t] w (fun e w' => e = .returned (.tuple #[]) ∧ QPost gw gm gl gq B b0 sz tr (q.step sz tr t) w w') := by
  have HK1 := Lib.hid (ticket_any gw gm gl gq B b0 sz tr q t 1 2 w ho.ht ho.hl ho.hn ho.hsz (by have := ho.hws; have := ho.hsz; omega) (by have := ho.hws; omega) (ho.hw 1).1 (ho.hw 1).2 hQ)
  have HK3 := Lib.hid (ticket_any gw gm gl gq B b0 sz tr q t 0 4 w ho.ht ho.hl ho.hn ho.hsz (by have := ho.hws; have := ho.hsz; omega) (by have := ho.hws; omega) (ho.hw 0).1 (ho.hw 0).2 hQ)
  obtain ⟨cb, cs, AC, cc, AN, cn, hQ⟩ := hQ
  obtain ⟨c0, c1, c2, c3, c4, c5⟩ := que_cells hQ.box
  generalize hx : q.l.getD t Man.none = x
  have hmx : q.man t = x := hx
  obtain ⟨m0, m1, m2, m3, m4⟩ := man_cells hQ.men ho.ht hx
  have hat := ho.hat
  have hsz := ho.hsz
  have q1 : (0 : Int) ≤ (t : Int) := by omega
  have q2 : (t : Int) < (q.l.length : Int) := by have := ho.ht; omega
  rw [hmx] at hp hat
  have a0 := hat.1
  have a1 : x.at_ < 4096 := by omega
  rcases hp with hp | hp
  · have HS : RowKit.Hid (q.step sz tr t = q.ticket sz t 1 2) := Lib.hid (by unfold TQ.step; rw [hmx, if_pos hp])
    have b1 : (x.pc == 1) = true := by simp [hp]
    clear hx hmx hQ ho hp hat
    go_enter Try.func100, Try.ntmps100
    go_wp2_with fail
    refine HK1.out.mono ?_
    rintro e w1 ⟨rfl, hP⟩
    have HP := Lib.hid hP
    clear hP
    go_wp2
    go_end0
    rw [HS.out]
    exact ⟨rfl, HP.out⟩
  · have HS : RowKit.Hid (q.step sz tr t = q.ticket sz t 0 4) := Lib.hid (by unfold TQ.step; rw [hmx, if_neg (by omega), if_neg (by omega), if_pos hp])
    have b1 : (x.pc == 1) = false := by simp [hp]
    have b2 : (x.pc == 2) = false := by simp [hp]
    have b3 : (x.pc == 3) = true := by simp [hp]
    clear hx hmx hQ ho hp hat
    go_enter Try.func100, Try.ntmps100
    go_wp2_with fail
    refine HK3.out.mono ?_
    rintro e w1 ⟨rfl, hP⟩
    have HP := Lib.hid hP
    clear hP
    go_wp2
    go_end0
    rw [HS.out]
    exact ⟨rfl, HP.out⟩

set_option maxHeartbeats 8000000 in
set_option maxRecDepth 100000 in
theorem step2_any (ho : SOk sz q t) (hp : (q.man t).pc = 2) (hQ : QIs gw gm gl gq B b0 sz tr q w) :
    Calls Try.prog 100 #[.pointer (some ⟨gq, 0, none⟩), .int .i64 t] w (fun e w' => e = .returned (.tuple #[]) ∧ QPost gw gm gl gq B b0 sz tr (q.step sz tr t) w w') := by
  obtain ⟨cb, cs, AC, cc, AN, cn, hQ⟩ := hQ
  have hcl : q.cellAt t < q.ws.length := by have := ho.hws; have := ho.hat; unfold TQ.cellAt; omega
  have hca : ((q.cellAt t : Nat) : Int) = 2 + (q.man t).at_ := by have := ho.hat; unfold TQ.cellAt; omega
  have HSW := Lib.hid (fun W hM => Swap_any gw gm B cb q.ws cs AC cc t (q.cellAt t) 0 ((q.man t).value + 2) W (by have := ho.ht; have := ho.hl; omega) hcl (by have := ho.hws; have := ho.hsz; omega) hM)
  have hgw : q.ws.getD (q.cellAt t) 0 = q.word (q.cellAt t) := rfl
  rw [hgw, hca] at HSW
  have HW1 := Lib.hid (wrap_u ho.hv.1 ho.hv.2)
  have HEN := Lib.hid (fun W h => ends_any gw gm gl gq B b0 sz tr (q.setW (q.cellAt t) ((q.man t).value + 2)) t 0 0 W ho.ht ho.hn h)
  have HAG := Lib.hid (fun W h => again_any gw gm gl gq B b0 sz tr q t 1 W ho.ht ho.hn ho.hy.1 ho.hy.2 h)
  obtain ⟨c0, c1, c2, c3, c4, c5⟩ := que_cells hQ.box
  generalize hx : q.l.getD t Man.none = x
  have hmx : q.man t = x := hx
  obtain ⟨m0, m1, m2, m3, m4⟩ := man_cells hQ.men ho.ht hx
  have hat := ho.hat
  have hsz := ho.hsz
  have hv := ho.hv
  have q1 : (0 : Int) ≤ (t : Int) := by omega
  have q2 : (t : Int) < (q.l.length : Int) := by have := ho.ht; omega
  have HS : RowKit.Hid (q.step sz tr t = if q.word (q.cellAt t) = 0 then (q.setW (q.cellAt t) ((q.man t).value + 2)).ends t 0 0 else q.again tr t 1) := Lib.hid (by unfold TQ.step; rw [if_neg (by omega), if_pos hp])
  have HSAME : RowKit.Hid (q.word (q.cellAt t) ≠ 0 → q.ws.set (q.cellAt t) (swapV (q.word (q.cellAt t)) 0 ((q.man t).value + 2)) = q.ws) := Lib.hid (by
    intro h
    rw [swapV, if_neg h]
    apply List.ext_getElem
    · simp
    · intro i h1 h2
      simp only [List.getElem_set]
      split
      · rename_i h; subst h; simp [TQ.word, List.getD, hcl]
      · rfl)
  have HDIFF : RowKit.Hid (q.word (q.cellAt t) = 0 → { q with ws := q.ws.set (q.cellAt t) (swapV (q.word (q.cellAt t)) 0 ((q.man t).value + 2)) } = q.setW (q.cellAt t) ((q.man t).value + 2)) := Lib.hid (by
    intro h
    rw [swapV, if_pos h]; rfl)
  rw [hmx] at hp hat hv HSW HEN HS HSAME HDIFF HW1
  have a0 := hat.1
  have a1 : x.at_ < 4096 := by omega
  have v0 := hv.1
  have v1 := hv.2
  have b1 : (x.pc == 1) = false := by simp [hp]
  have b2 : (x.pc == 2) = true := by simp [hp]
  have HQ := Lib.hid hQ
  have HTT := Lib.hid ho.ht
  have HXX := Lib.hid hmx
  clear hx hmx hQ ho hp hat hv hcl hca hgw
  have hltq : gq < w.heap.size := HQ.out.box.lt
  go_enter Try.func100, Try.ntmps100
  go_upto_region 6 with (fail)
  have HSW' : RowKit.Hid (∀ W z, z = x.value + 2 → MAt gw gm B cb q.ws W cs AC cc → Calls Try.prog 120 #[.pointer (some ⟨gm, 0, none⟩), .int .i64 t, .int .i64 (2 + x.at_), .int .u64 0, .int .u64 z] W (fun e w' => e = .returned (.tuple #[.bool (decide (q.word (q.cellAt t) = 0)), .int .i64 0]) ∧ MPost gw gm B cb (q.ws.set (q.cellAt t) (swapV (q.word (q.cellAt t)) 0 (x.value + 2))) W w')) := Lib.hid (fun W z hz hM => by subst hz; exact HSW.out W hM)
  clear HSW
  by_cases hz : q.word (q.cellAt t) = 0
  · have HZ := Lib.hid hz
    have hd : decide (q.word (q.cellAt t) = 0) = true := by simpa using hz
    rw [hd] at HSW'
    clear hz hd
    go_region_held3 (fun w' => w'.cell? ⟨gq, 0, none⟩ = some (.pointer (some ⟨gm, 0, none⟩)) ∧ w'.cell? ⟨gl, t * 5 + 2, none⟩ = some (.int .i64 x.value)) (first | go_keep | (exact ⟨d0, d2⟩))
      (first | (go_at_call 120; refine (HSW'.out _ _ (by first | rfl | exact HW1.out) (HQ.out.drewN 1).mem).mono ?_; rintro e w1 ⟨rfl, hP⟩; have hPQ := (HQ.out.drewN 1).words hP; rw [HDIFF.out HZ.out] at hPQ; have HP := Lib.hid hPQ; obtain ⟨⟨cb1, cs1, AC1, cc1, AN1, cn1, hQ1⟩, hB1⟩ := hPQ; have d0 := (que_cells hQ1.box).1; have d2 := (man_cells hQ1.men HTT.out HXX.out).2.2.1; clear hP hQ1 hB1))
    go_wp2_with fail
    refine (HEN.out _ HP.out.1).mono ?_
    rintro e w2 ⟨rfl, hP⟩
    have HP2 := Lib.hid hP
    clear hP
    go_wp2
    refine bodyPost_ret (results_none rfl _ _ _) rfl ⟨rfl, ?_⟩
    rw [HS.out, if_pos HZ.out]
    exact HP2.out.from_ ((Below.drewN' (Below.refl _ _) 1).trans HP.out.2)
  · have HZ := Lib.hid hz
    have hd : decide (q.word (q.cellAt t) = 0) = false := by simpa using hz
    rw [hd] at HSW'
    clear hz hd
    have HSM2 := Lib.hid (show { q with ws := q.ws.set (q.cellAt t) (swapV (q.word (q.cellAt t)) 0 (x.value + 2)) } = q by rw [HSAME.out HZ.out])
    go_region_held3 (fun w' => w'.cell? ⟨gq, 0, none⟩ = some (.pointer (some ⟨gm, 0, none⟩)) ∧ w'.cell? ⟨gl, t * 5 + 2, none⟩ = some (.int .i64 x.value)) (first | go_keep | (exact ⟨d0, d2⟩))
      (first | (go_at_call 120; refine (HSW'.out _ _ (by first | rfl | exact HW1.out) (HQ.out.drewN 1).mem).mono ?_; rintro e w1 ⟨rfl, hP⟩; have hPQ := (HQ.out.drewN 1).words hP; rw [HSM2.out] at hPQ; have HP := Lib.hid hPQ; obtain ⟨⟨cb1, cs1, AC1, cc1, AN1, cn1, hQ1⟩, hB1⟩ := hPQ; have d0 := (que_cells hQ1.box).1; have d2 := (man_cells hQ1.men HTT.out HXX.out).2.2.1; clear hP hQ1 hB1))
    go_wp2_with fail
    refine (HAG.out _ HP.out.1).mono ?_
    rintro e w2 ⟨rfl, hP⟩
    have HP2 := Lib.hid hP
    clear hP
    go_wp2
    go_end0
    refine ⟨rfl, ?_⟩
    rw [HS.out, if_neg HZ.out]
    exact HP2.out.from_ ((Below.drewN' (Below.refl _ _) 1).trans HP.out.2)

set_option maxHeartbeats 8000000 in
set_option maxRecDepth 100000 in
theorem step4_any (ho : SOk sz q t) (hp : (q.man t).pc = 4) (hQ : QIs gw gm gl gq B b0 sz tr q w) :
    Calls Try.prog 100 #[.pointer (some ⟨gq, 0, none⟩), .int .i64 t] w (fun e w' => e = .returned (.tuple #[]) ∧ QPost gw gm gl gq B b0 sz tr (q.step sz tr t) w w') := by
  obtain ⟨cb, cs, AC, cc, AN, cn, hQ⟩ := hQ
  have hcl : q.cellAt t < q.ws.length := by have := ho.hws; have := ho.hat; unfold TQ.cellAt; omega
  have hca : ((q.cellAt t : Nat) : Int) = 2 + (q.man t).at_ := by have := ho.hat; unfold TQ.cellAt; omega
  have HSW := Lib.hid (fun W hM => Swap_any gw gm B cb q.ws cs AC cc t (q.cellAt t) 0 1 W (by have := ho.ht; have := ho.hl; omega) hcl (by have := ho.hws; have := ho.hsz; omega) hM)
  have hgw : q.ws.getD (q.cellAt t) 0 = q.word (q.cellAt t) := rfl
  rw [hgw, hca] at HSW
  obtain ⟨c0, c1, c2, c3, c4, c5⟩ := que_cells hQ.box
  generalize hx : q.l.getD t Man.none = x
  have hmx : q.man t = x := hx
  obtain ⟨m0, m1, m2, m3, m4⟩ := man_cells hQ.men ho.ht hx
  have f0 := hQ.men.frozen (t * 5)
  have hat := ho.hat
  have hsz := ho.hsz
  have hne := blk_ne hQ.box hQ.men (by decide)
  have hne2 : ¬ gl = gq := fun e => hne (Eq.symm e)
  have q1 : (0 : Int) ≤ (t : Int) := by omega
  have q2 : (t : Int) < (q.l.length : Int) := by have := ho.ht; omega
  have HS : RowKit.Hid (q.step sz tr t = if q.word (q.cellAt t) = 0 then (q.setW (q.cellAt t) 1).setM t ⟨6, (q.man t).seq, (q.man t).value, (q.man t).at_, (q.man t).try_⟩ else q.setM t ⟨5, (q.man t).seq, (q.man t).value, (q.man t).at_, (q.man t).try_⟩) := Lib.hid (by unfold TQ.step; rw [if_neg (by omega), if_neg (by omega), if_neg (by omega), if_pos hp])
  have HSAME : RowKit.Hid (q.word (q.cellAt t) ≠ 0 → q.ws.set (q.cellAt t) (swapV (q.word (q.cellAt t)) 0 1) = q.ws) := Lib.hid (by
    intro h
    rw [swapV, if_neg h]
    apply List.ext_getElem
    · simp
    · intro i h1 h2
      simp only [List.getElem_set]
      split
      · rename_i h; subst h; simp [TQ.word, List.getD, hcl]
      · rfl)
  rw [hmx] at hp hat HSW HS
  have a0 := hat.1
  have a1 : x.at_ < 4096 := by omega
  have b1 : (x.pc == 1) = false := by simp [hp]
  have b2 : (x.pc == 2) = false := by simp [hp]
  have b3 : (x.pc == 3) = false := by simp [hp]
  have b4 : (x.pc == 4) = true := by simp [hp]
  have hput : Blk (w.setCell ⟨gl, t * 5, none⟩ (.int .i64 5)) gl 113 (rows (q.l.set t ⟨5, x.seq, x.value, x.at_, x.try_⟩)) := by
    have h0 := man_put hQ.men ho.ht 0 (.int .i64 5) ⟨5, x.seq, x.value, x.at_, x.try_⟩ (by decide) (by rw [hx]; rfl)
    rw [Nat.add_zero] at h0; exact h0
  have HQ5 := Lib.hid (hQ.setL (l' := q.l.set t ⟨5, x.seq, x.value, x.at_, x.try_⟩) (by simp) ((Keep.refl (fun k => k = gl) w).set_ gl (t * 5) (.int .i64 5) (.inr rfl)) hput)
  have HB5 := Lib.hid (hQ.lowL ((Keep.refl (fun k => k = gl) w).set_ gl (t * 5) (.int .i64 5) (.inr rfl)))
  have HTT := Lib.hid ho.ht
  clear hx hmx hQ ho hp hat hcl hca hgw hput
  go_enter Try.func100, Try.ntmps100
  go_wp2_with fail
  refine (HSW.out _ HQ5.out.mem).mono ?_
  rintro e w1 ⟨rfl, hP⟩
  have hQ1 := HQ5.out.words hP
  have HP := Lib.hid hQ1
  have HBA := Lib.hid (HB5.out.trans hQ1.2)
  clear hP hQ1 c0 c1 c2 c3 c4 c5 m0 m1 m2 m3 m4 f0 HSW
  by_cases hz : q.word (q.cellAt t) = 0
  · have HZ := Lib.hid hz
    have hd : decide (q.word (q.cellAt t) = 0) = true := by simpa using hz
    rw [hd]
    clear hz hd
    obtain ⟨⟨cb1, cs1, AC1, cc1, AN1, cn1, hQ1⟩, hB1⟩ := HP.out
    have hlt : t < (q.l.set t ⟨5, x.seq, x.value, x.at_, x.try_⟩).length := by simpa using HTT.out
    have hgd : (q.l.set t ⟨5, x.seq, x.value, x.at_, x.try_⟩).getD t Man.none = ⟨5, x.seq, x.value, x.at_, x.try_⟩ := by simp [List.getD, HTT.out]
    obtain ⟨m0, m1, m2, m3, m4⟩ := man_cells hQ1.men hlt hgd
    have f0 := hQ1.men.frozen (t * 5)
    have h6 : Blk (w1.setCell ⟨gl, t * 5, none⟩ (.int .i64 6)) gl 113 (rows ((q.l.set t ⟨5, x.seq, x.value, x.at_, x.try_⟩).set t ⟨6, x.seq, x.value, x.at_, x.try_⟩)) := by
      have h0 := man_put hQ1.men hlt 0 (.int .i64 6) ⟨6, x.seq, x.value, x.at_, x.try_⟩ (by decide) (by
        show _ = ((q.l.set t ⟨5, x.seq, x.value, x.at_, x.try_⟩).getD t Man.none).cells.set 0 _
        rw [hgd]; rfl)
      rw [Nat.add_zero] at h0; exact h0
    have HP6 := Lib.hid (hQ1.manPost ((Keep.refl (fun k => k = gl) w1).set_ gl (t * 5) (.int .i64 6) (.inr rfl)) h6)
    clear hQ1 hB1 h6 hlt hgd
    go_wp2
    go_end0
    refine ⟨rfl, ?_⟩
    rw [HS.out, if_pos HZ.out]
    have h := HP6.out.from_ HBA.out
    rw [HZ.out] at h
    simpa [TQ.setM, TQ.setW, swapV] using h
  · have HZ := Lib.hid hz
    have hd : decide (q.word (q.cellAt t) = 0) = false := by simpa using hz
    rw [hd]
    clear hz hd
    go_wp2
    go_end0
    refine ⟨rfl, ?_⟩
    rw [HS.out, if_neg HZ.out]
    have h := HP.out.1
    rw [HSAME.out HZ.out] at h
    exact ⟨h, HBA.out⟩

set_option maxHeartbeats 8000000 in
set_option maxRecDepth 100000 in
theorem step5_any (ho : SOk sz q t) (hp : (q.man t).pc = 5) (hQ : QIs gw gm gl gq B b0 sz tr q w) :
    Calls Try.prog 100 #[.pointer (some ⟨gq, 0, none⟩), .int .i64 t] w (fun e w' => e = .returned (.tuple #[]) ∧ QPost gw gm gl gq B b0 sz tr (q.step sz tr t) w w') := by
  obtain ⟨cb, cs, AC, cc, AN, cn, hQ⟩ := hQ
  have hcl : q.cellAt t < q.ws.length := by have := ho.hws; have := ho.hat; unfold TQ.cellAt; omega
  have hca : ((q.cellAt t : Nat) : Int) = 2 + (q.man t).at_ := by have := ho.hat; unfold TQ.cellAt; omega
  have HLD := Lib.hid (Load_any gw gm B cb q.ws cs AC cc t (q.cellAt t) w (by have := ho.ht; have := ho.hl; omega) hcl (by have := ho.hws; have := ho.hsz; omega) hQ.mem)
  have hgw : q.ws.getD (q.cellAt t) 0 = q.word (q.cellAt t) := rfl
  rw [hgw, hca] at HLD
  have HEN := Lib.hid (fun W h => ends_any gw gm gl gq B b0 sz tr q t 0 (q.word (q.cellAt t) - 2) W ho.ht ho.hn h)
  obtain ⟨c0, c1, c2, c3, c4, c5⟩ := que_cells hQ.box
  generalize hx : q.l.getD t Man.none = x
  have hmx : q.man t = x := hx
  obtain ⟨m0, m1, m2, m3, m4⟩ := man_cells hQ.men ho.ht hx
  have hat := ho.hat
  have hsz := ho.hsz
  have q1 : (0 : Int) ≤ (t : Int) := by omega
  have q2 : (t : Int) < (q.l.length : Int) := by have := ho.ht; omega
  have HS : RowKit.Hid (q.step sz tr t = q.ends t 0 (q.word (q.cellAt t) - 2)) := Lib.hid (by unfold TQ.step; rw [if_neg (by omega), if_neg (by omega), if_neg (by omega), if_neg (by omega), if_pos hp])
  have w0 := ho.h5 hp
  have w1 := (ho.hw (q.cellAt t)).2
  rw [hmx] at hp hat HLD
  generalize q.word (q.cellAt t) = n at *
  have a0 := hat.1
  have a1 : x.at_ < 4096 := by omega
  have b1 : (x.pc == 1) = false := by simp [hp]
  have b2 : (x.pc == 2) = false := by simp [hp]
  have b3 : (x.pc == 3) = false := by simp [hp]
  have b4 : (x.pc == 4) = false := by simp [hp]
  have b5 : (x.pc == 5) = true := by simp [hp]
  have HQ := Lib.hid hQ
  clear hx hmx hQ ho hp hat hcl hca hgw
  go_enter Try.func100, Try.ntmps100
  go_wp2_with fail
  refine HLD.out.mono ?_
  rintro e w2 ⟨rfl, hP⟩
  have hQ1 := HQ.out.words hP
  have HP := Lib.hid (show QPost gw gm gl gq B b0 sz tr q w w2 from hQ1)
  clear hP hQ1
  go_wp2_with fail
  refine (HEN.out _ HP.out.1).mono ?_
  rintro e w3 ⟨rfl, hP⟩
  have HP2 := Lib.hid hP
  clear hP
  go_wp2
  go_end0
  rw [HS.out]
  exact ⟨rfl, HP2.out.from_ HP.out.2⟩

set_option maxHeartbeats 8000000 in
set_option maxRecDepth 100000 in
theorem step6_any (ho : SOk sz q t) (hp : (q.man t).pc = 6) (hQ : QIs gw gm gl gq B b0 sz tr q w) :
    Calls Try.prog 100 #[.pointer (some ⟨gq, 0, none⟩), .int .i64 t] w (fun e w' => e = .returned (.tuple #[]) ∧ QPost gw gm gl gq B b0 sz tr (q.step sz tr t) w w') := by
  obtain ⟨cb, cs, AC, cc, AN, cn, hQ⟩ := hQ
  have HLD := Lib.hid (Load_any gw gm B cb q.ws cs AC cc t 1 w (by have := ho.ht; have := ho.hl; omega) (by have := ho.hws; omega) (by have := ho.hws; have := ho.hsz; omega) hQ.mem)
  have hgw : q.ws.getD 1 0 = q.word 1 := rfl
  rw [hgw] at HLD
  have HEN := Lib.hid (fun W h => ends_any gw gm gl gq B b0 sz tr q t 10 0 W ho.ht ho.hn h)
  have HAG := Lib.hid (fun W h => again_any gw gm gl gq B b0 sz tr q t 3 W ho.ht ho.hn ho.hy.1 ho.hy.2 h)
  obtain ⟨c0, c1, c2, c3, c4, c5⟩ := que_cells hQ.box
  generalize hx : q.l.getD t Man.none = x
  have hmx : q.man t = x := hx
  obtain ⟨m0, m1, m2, m3, m4⟩ := man_cells hQ.men ho.ht hx
  have hat := ho.hat
  have hsz := ho.hsz
  have q1 : (0 : Int) ≤ (t : Int) := by omega
  have q2 : (t : Int) < (q.l.length : Int) := by have := ho.ht; omega
  have HS : RowKit.Hid (q.step sz tr t = if q.word 1 ≤ (q.man t).at_ + 1 then q.ends t 10 0 else q.again tr t 3) := Lib.hid (by unfold TQ.step; rw [if_neg (by omega), if_neg (by omega), if_neg (by omega), if_neg (by omega), if_neg (by omega), if_pos hp])
  have w0 := (ho.hw 1).1
  have w1 := (ho.hw 1).2
  rw [hmx] at hp hat HS
  generalize q.word 1 = n at *
  have a0 := hat.1
  have a1 : x.at_ < 4096 := by omega
  have b1 : (x.pc == 1) = false := by simp [hp]
  have b2 : (x.pc == 2) = false := by simp [hp]
  have b3 : (x.pc == 3) = false := by simp [hp]
  have b4 : (x.pc == 4) = false := by simp [hp]
  have b5 : (x.pc == 5) = false := by simp [hp]
  have b6 : (x.pc == 6) = true := by simp [hp]
  have HQ := Lib.hid hQ
  have HTT := Lib.hid ho.ht
  have HXX := Lib.hid hx
  clear hx hmx hQ ho hp hat hgw
  go_enter Try.func100, Try.ntmps100
  go_wp2_with fail
  refine HLD.out.mono ?_
  rintro e w2 ⟨rfl, hP⟩
  have hQ1 := HQ.out.words hP
  have HP := Lib.hid (show QPost gw gm gl gq B b0 sz tr q w w2 from hQ1)
  clear hP hQ1 c0 c1 c2 c3 c4 c5 m0 m1 m2 m3 m4
  obtain ⟨⟨cb1, cs1, AC1, cc1, AN1, cn1, hQ1⟩, hB1⟩ := HP.out
  obtain ⟨m0, m1, m2, m3, m4⟩ := man_cells hQ1.men HTT.out HXX.out
  clear hQ1 hB1
  by_cases hz : n ≤ x.at_ + 1
  · have HZ := Lib.hid hz
    have hd : decide (n ≤ x.at_ + 1) = true := by simpa using hz
    go_wp2_with fail
    refine (HEN.out _ HP.out.1).mono ?_
    rintro e w3 ⟨rfl, hP⟩
    have HP2 := Lib.hid hP
    clear hP
    go_wp2
    refine bodyPost_ret (results_none rfl _ _ _) rfl ⟨rfl, ?_⟩
    rw [HS.out, if_pos HZ.out]
    exact HP2.out.from_ HP.out.2
  · have HZ := Lib.hid hz
    have hd : decide (n ≤ x.at_ + 1) = false := by simpa using hz
    go_wp2_with fail
    refine (HAG.out _ HP.out.1).mono ?_
    rintro e w3 ⟨rfl, hP⟩
    have HP2 := Lib.hid hP
    clear hP
    go_wp2
    go_end0
    refine ⟨rfl, ?_⟩
    rw [HS.out, if_neg (by have := HZ.out; omega)]
    exact HP2.out.from_ HP.out.2

set_option maxHeartbeats 8000000 in
set_option maxRecDepth 100000 in
theorem step0_any (ho : SOk sz q t) (hp : ¬ ((q.man t).pc = 1 ∨ (q.man t).pc = 2 ∨ (q.man t).pc = 3 ∨ (q.man t).pc = 4 ∨ (q.man t).pc = 5 ∨ (q.man t).pc = 6)) (hQ : QIs gw gm gl gq B b0 sz tr q w) :
    Calls Try.prog 100 #[.pointer (some ⟨gq, 0, none⟩), .int .i64 t] w (fun e w' => e = .returned (.tuple #[]) ∧ QPost gw gm gl gq B b0 sz tr (q.step sz tr t) w w') := by
  obtain ⟨cb, cs, AC, cc, AN, cn, hQ⟩ := hQ
  obtain ⟨c0, c1, c2, c3, c4, c5⟩ := que_cells hQ.box
  generalize hx : q.l.getD t Man.none = x
  have hmx : q.man t = x := hx
  obtain ⟨m0, m1, m2, m3, m4⟩ := man_cells hQ.men ho.ht hx
  have hat := ho.hat
  have hsz := ho.hsz
  have q1 : (0 : Int) ≤ (t : Int) := by omega
  have q2 : (t : Int) < (q.l.length : Int) := by have := ho.ht; omega
  have HS : RowKit.Hid (q.step sz tr t = q) := Lib.hid (by unfold TQ.step; rw [if_neg (by omega), if_neg (by omega), if_neg (by omega), if_neg (by omega), if_neg (by omega), if_neg (by omega)])
  rw [hmx] at hp hat
  have a0 := hat.1
  have a1 : x.at_ < 4096 := by omega
  have b1 : (x.pc == 1) = false := by simp; omega
  have b2 : (x.pc == 2) = false := by simp; omega
  have b3 : (x.pc == 3) = false := by simp; omega
  have b4 : (x.pc == 4) = false := by simp; omega
  have b5 : (x.pc == 5) = false := by simp; omega
  have b6 : (x.pc == 6) = false := by simp; omega
  have HQ := Lib.hid hQ
  clear hx hmx hQ ho hp hat
  go_enter Try.func100, Try.ntmps100
  go_wp2
  go_end0
  rw [HS.out]
  exact ⟨rfl, HQ.out.toIs, Below.refl _ _⟩

theorem step_any (ho : SOk sz q t) (hQ : QIs gw gm gl gq B b0 sz tr q w) :
    Calls Try.prog 100 #[.pointer (some ⟨gq, 0, none⟩), .int .i64 t] w (fun e w' => e = .returned (.tuple #[]) ∧ QPost gw gm gl gq B b0 sz tr (q.step sz tr t) w w') := by
  by_cases h1 : (q.man t).pc = 1 ∨ (q.man t).pc = 3
  · exact step1_any ho h1 hQ
  by_cases h2 : (q.man t).pc = 2
  · exact step2_any ho h2 hQ
  by_cases h4 : (q.man t).pc = 4
  · exact step4_any ho h4 hQ
  by_cases h5 : (q.man t).pc = 5
  · exact step5_any ho h5 hQ
  by_cases h6 : (q.man t).pc = 6
  · exact step6_any ho h6 hQ
  exact step0_any ho (by omega) hQ
end

def TQ.pickI (sz tr : Nat) (q : TQ) (t : Int) : TQ := if t < 0 ∨ (q.l.length : Int) ≤ t then q else q.tic.step sz tr t.toNat

set_option maxHeartbeats 8000000 in
set_option maxRecDepth 100000 in
theorem Pick_any (gw gm gl gq B b0 sz tr : Nat) (q : TQ) (t : Int) (w : World) (ho : ∀ t, t < q.l.length → SOk sz q.tic t) (hm0 : 0 ≤ q.time) (hm1 : q.time ≤ 1048576) (hQ : QIs gw gm gl gq B b0 sz tr q w) :
    Calls Try.prog 61 #[.pointer (some ⟨gq, 0, none⟩), .int .i64 t] w (QPostE gw gm gl gq B b0 sz tr (q.pickI sz tr t) w) := by
  obtain ⟨cb, cs, AC, cc, AN, cn, hQ⟩ := hQ
  have HM := Lib.hid (tmade_any gq gm sz tr gl q.l.length q.ns.length cn AN q.time t w hQ.box)
  have HQ := Lib.hid hQ
  have HI : RowKit.Hid (q.pickI sz tr t = if t < 0 ∨ (q.l.length : Int) ≤ t then q else q.tic.step sz tr t.toNat) := Lib.hid rfl
  clear hQ
  by_cases hb : t < 0 ∨ (q.l.length : Int) ≤ t
  · rw [show madeE q.l.length t = 1 from if_pos hb] at HM
    rw [HI.out, if_pos hb]
    clear hb ho
    go_enter Try.func61, Try.ntmps61
    go_wp2_with fail
    refine HM.out.mono ?_
    rintro e w1 ⟨rfl, hb1⟩
    have HB1 := Lib.hid hb1
    clear hb1
    go_wp2
    go_ret
    exact ⟨⟨_, rfl⟩, (HQ.out.below HB1.out).toIs, HB1.out.mono HQ.out.base⟩
  · rw [show madeE q.l.length t = 0 from if_neg hb] at HM
    rw [HI.out, if_neg hb]
    have ht : t.toNat < q.l.length := by omega
    have HST := Lib.hid (fun W h => step_any (gw := gw) (gm := gm) (gl := gl) (gq := gq) (B := B) (b0 := b0) (tr := tr) (w := W) (ho _ ht) h)
    rw [Int.toNat_of_nonneg (by omega)] at HST
    generalize q.tic.step sz tr t.toNat = q2 at *
    clear hb ho ht
    go_enter Try.func61, Try.ntmps61
    go_wp2_with fail
    refine HM.out.mono ?_
    rintro e w1 ⟨rfl, hb1⟩
    have HQ1 := Lib.hid (HQ.out.below hb1)
    have HB1 := Lib.hid (hb1.mono HQ.out.base)
    have f5 := HQ1.out.box.frozen 5
    obtain ⟨_, _, _, _, _, c5⟩ := que_cells HQ1.out.box
    have HQ2 := Lib.hid (show QAt gw gm gl gq B b0 sz tr q.tic (w1.setCell ⟨gq, 5, none⟩ (.int .i64 (q.time + 1))) cb cs AC cc AN cn from HQ1.out.setT (q.time + 1))
    have HB2 := Lib.hid (HB1.out.trans (HQ1.out.lowQ ((Keep.refl (fun k => k = gq) w1).set_ gq 5 (.int .i64 (q.time + 1)) (.inr rfl))))
    clear hb1
    go_wp2_with fail
    refine (HST.out _ HQ2.out.toIs).mono ?_
    rintro e w2 ⟨rfl, hP⟩
    have HP := Lib.hid hP
    clear hP
    go_wp2
    go_ret
    exact ⟨⟨_, rfl⟩, HP.out.from_ HB2.out⟩

end Go.Proofs.Ytmllbailfbjoeaa
