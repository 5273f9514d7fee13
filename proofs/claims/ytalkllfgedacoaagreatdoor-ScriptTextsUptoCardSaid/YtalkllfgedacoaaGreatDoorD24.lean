/- slices.EqualFunc over events, by script.Same, walked. -/
import Derived.Test.YtalkllfgedacoaaGreatDoorD6
import Derived.Test.YtalkllfgedacoaaGreatDoorD10
import Derived.Test.YtalkllfgedacoaaGreatDoorD23
import Derived.Test.YtalkllfgedacoaaGreatDoorD2
namespace Go.Proofs.YtalkllfgedacoaaGreatDoor
open Go.RowKit Go.Sort

/-- Of calls: not of picks. -/
theorem EvIn.callIn {x : Ev} {a : EvR} {w : World} (h : EvIn x) (ha : EvAt w a x) : CallIn a.q x.rq.cs := h.call ha

set_option maxHeartbeats 8000000 in
set_option maxRecDepth 100000 in
theorem say_call (A : Option Addr) (n c : Nat) (e : Ev) (r : List Ev) (w : World) (hn : n ≤ 1048576) (hA : EvsIn w A n (e :: r)) (hi : EvIn e) (hs : ∀ x ∈ e :: r, EvSm x) (he : ErrT w) (ht : TabT w) (hm : MLT w) (hk : e.kind = 2) : Calls Tryz.prog 56 #[.slice A n c] w fun e' w' => e' = .returned (.tuple #[.string (evS e (grpQ (e :: r))), .int .i64 (grpQ (e :: r) : Nat)]) ∧ Below w.heap.size w w' := by
  have HV : RowKit.Hid (evS e (grpQ (e :: r)) = w_callS ++ (⟨#[32]⟩ ++ itoaS e.thread) ++ ⟨#[32]⟩ ++ sayR e.rq) := Lib.hid (evS_callE hk)
  have HG : RowKit.Hid (grpQ (e :: r) = 1) := Lib.hid (grpQ_one r (by rw [hk]; decide))
  rw [HV.out, HG.out]
  have hnl := hA.len
  obtain ⟨la, hla, hra, hea⟩ := hA.ex
  have hn1 : 1 ≤ n := by rw [← hnl]; simp
  obtain ⟨b1, o1, rfl, hb1, hc1⟩ := hra.at_ (by rw [rows_length, hla]; exact Nat.mul_pos (by omega) (by decide))
  have HC1 := Lib.hid hc1
  have HBL := Lib.hid hb1
  have HEA := Lib.hid hea
  have HLA := Lib.hid hla
  have hrl : r.length + 1 = n := by rw [← hnl]; simp
  have HRL := Lib.hid hrl
  have ha0 := hea.at (k := 0) (by omega)
  have hx0 : (e :: r).getD 0 evNone = e := rfl
  rw [hx0] at ha0
  obtain ⟨x0, x1, x2, x3, x4, x5, x6, x7, x8⟩ := ev_cells hc1 (k := 0) (by omega) rfl
  simp only [Nat.zero_mul, Nat.add_zero] at x0 x1 x2 x3 x4 x5 x6 x7 x8
  have HS := Lib.hid hs
  have hsm := hs e (List.mem_cons_self ..)
  have HE := Lib.hid he
  have HT := Lib.hid ht
  have HM := Lib.hid hm
  clear hA hla hra hea hs he ht hm hnl hx0 hc1
  generalize la.getD 0 EvR.none = a0 at *
  have hsm0 := ha0.small hsm
  obtain ⟨ek', et', ⟨qk, qa, qv, qd, QA, qn, qc⟩, ei', OA, on, oc⟩ := a0
  have HAT := Lib.hid ha0
  have h1 := ha0.kind
  have h2 := ha0.thread
  have h3 := ha0.inn
  have h4 := ha0.len
  simp only at h1 h2 h3 h4 x0 x1 x2 x3 x4 x5 x6 x7 x8
  have hit := hi.thread
  have HI := Lib.hid hi
  have HSM0 := Lib.hid hsm0
  clear ha0 hsm hsm0 hi
  generalize hek : e.kind = ek at *
  generalize het : e.thread = et at *
  generalize hei : e.inn = ei at *
  subst h1 h2 h3
  have HEK := Lib.hid hek
  have HET := Lib.hid het
  have HEI := Lib.hid hei
  have H4 := Lib.hid h4
  clear hek het hei h4
  have HX : RowKit.Hid (Blk (w.alloc (.cells #[.int .i64 ek', .int .i64 et', .int .i64 qk, .int .i64 qa, .int .i64 qv, .bool qd, .slice QA qn qc, .int .i64 ei', .slice OA on oc] 74)) w.heap.size 74 [.int .i64 ek', .int .i64 et', .int .i64 qk, .int .i64 qa, .int .i64 qv, .bool qd, .slice QA qn qc, .int .i64 ei', .slice OA on oc]) := Lib.hid (Blk.new w _ _)
  have HB0 := Lib.hid ((Below.refl w.heap.size w).alloc (Nat.le_refl _) (.cells #[.int .i64 ek', .int .i64 et', .int .i64 qk, .int .i64 qa, .int .i64 qv, .bool qd, .slice QA qn qc, .int .i64 ei', .slice OA on oc] 74))
  have HIT := Lib.hid (fun W (h : Below w.heap.size w W) => Itoa_any et' hit W (HT.out.below h))
  have hz := itoaS_size hit
  have HSY : RowKit.Hid (∀ W, Below w.heap.size w W → Calls Tryz.prog 31 #[reqV ⟨qk, qa, qv, qd, QA, qn, qc⟩] W fun e' w' => e' = .returned (.string (sayR e.rq)) ∧ Below W.heap.size W w') := Lib.hid (fun W h => by
    have hc := HI.out.callIn HAT.out
    have hr := HAT.out.req.below h
    have hl := hr.len
    simp only at hc hr hl
    have e2 : sayR e.rq = callS ⟨qk, qa, qv, qd, QA, qn, qc⟩ e.rq.cs := by
      rw [sayR_eq _ _ hl.symm]
      have g1 := HAT.out.qk; have g2 := HAT.out.qa; have g3 := HAT.out.qv; have g4 := HAT.out.qd
      simp only at g1 g2 g3 g4
      rw [g1, g2, g3, g4]
    rw [e2]
    exact Say24_any ⟨qk, qa, qv, qd, QA, qn, qc⟩ e.rq.cs W hr (by simp only; rw [← hl]; exact HI.out.ncs) hc (HE.out.below h) (HT.out.below h) (HM.out.below h))
  have hcz : (sayR e.rq).size ≤ 60000000 := by
    have h1 := callS_size (HI.out.callIn HAT.out)
    have h2 := HI.out.ncs
    have h3 : sayR e.rq = callS ⟨qk, qa, qv, qd, QA, qn, qc⟩ e.rq.cs := by
      rw [sayR_eq _ _ HAT.out.req.len.symm]
      have g1 := HAT.out.qk; have g2 := HAT.out.qa; have g3 := HAT.out.qv; have g4 := HAT.out.qd
      simp only at g1 g2 g3 g4
      rw [g1, g2, g3, g4]
    simp only at h1
    rw [h3]
    omega
  unfold reqV at HSY
  generalize sayR e.rq = cs at *
  generalize itoaS et' = z at *
  subst hk
  unfold w_callS
  have d0 : ¬ 9223372036854775807 < 1 + z.size := by omega
  have d1 : ¬ 9223372036854775807 < 4 + (1 + z.size) := by omega
  have d2 : ¬ 9223372036854775807 < 4 + (1 + z.size) + 1 := by omega
  have d3 : ¬ 9223372036854775807 < 4 + (1 + z.size) + 1 + cs.size := by omega
  clear hz hcz
  go_enter Tryz.func56, Tryz.ntmps56
  go_upto_region 2 with (fail)
  generalize w.alloc (.cells #[.int .i64 2, .int .i64 et', .int .i64 qk, .int .i64 qa, .int .i64 qv, .bool qd, .slice QA qn qc, .int .i64 ei', .slice OA on oc] 74) = W0 at *
  have y0 := HX.out.cell (i := 0) rfl
  have y1 := HX.out.cell (i := 1) rfl
  have hgl := HX.out.lt
  go_upto_region 3 with (go_at_call 65; refine (HIT.out _ HB0.out).mono ?_; rintro er w1 ⟨rfl, hb1⟩; have HB1 := Lib.hid (HB0.out.trans (hb1.mono HB0.out.size)); have HX1 := Lib.hid (HX.out.below hb1 HX.out.lt); clear hb1)
  have y0 := HX1.out.cell (i := 0) rfl
  have y2 := HX1.out.cell (i := 2) rfl
  have y3 := HX1.out.cell (i := 3) rfl
  have y4 := HX1.out.cell (i := 4) rfl
  have y5 := HX1.out.cell (i := 5) rfl
  have y6 := HX1.out.cell (i := 6) rfl
  have hg1 := HX1.out.lt
  clear x0 x1 x2 x3 x4 x5 x6 x7 x8 y1
  go_wp2_with (go_at_call 31; refine (HSY.out _ HB1.out).mono ?_; rintro er w2 ⟨rfl, hb2⟩; have HB2 := Lib.hid (HB1.out.trans (hb2.mono HB1.out.size)); clear hb2)
  go_ret2
  exact ⟨rfl, HB2.out⟩

set_option maxHeartbeats 8000000 in
set_option maxRecDepth 100000 in
theorem say_pump (A : Option Addr) (n c : Nat) (e : Ev) (r : List Ev) (w : World) (hn : n ≤ 1048576) (hA : EvsIn w A n (e :: r)) (hi : EvIn e) (hs : ∀ x ∈ e :: r, EvSm x) (he : ErrT w) (ht : TabT w) (hm : MLT w) (hk1 : ¬ e.kind = 1) (hk2 : ¬ e.kind = 2) : Calls Tryz.prog 56 #[.slice A n c] w fun e' w' => e' = .returned (.tuple #[.string (evS e (grpQ (e :: r))), .int .i64 (grpQ (e :: r) : Nat)]) ∧ Below w.heap.size w w' := by
  have HV : RowKit.Hid (evS e (grpQ (e :: r)) = pumpS e e.outs.length) := Lib.hid (pumpS_all hk1 hk2)
  have HG : RowKit.Hid (grpQ (e :: r) = 1) := Lib.hid (grpQ_one r hk1)
  rw [HV.out, HG.out]
  have HP0 := Lib.hid (pumpS_zero e)
  have HPS := Lib.hid (fun k => pumpS_step (e := e) (k := k))
  have HPZ := Lib.hid (pumpS_size hi.thread hi.inn hi.outs)
  have HOI := Lib.hid hi.outs
  have hin := hi.inn
  have hnl := hA.len
  obtain ⟨la, hla, hra, hea⟩ := hA.ex
  have hn1 : 1 ≤ n := by rw [← hnl]; simp
  obtain ⟨b1, o1, rfl, hb1, hc1⟩ := hra.at_ (by rw [rows_length, hla]; exact Nat.mul_pos (by omega) (by decide))
  have HC1 := Lib.hid hc1
  have HBL := Lib.hid hb1
  have HEA := Lib.hid hea
  have HLA := Lib.hid hla
  have hrl : r.length + 1 = n := by rw [← hnl]; simp
  have HRL := Lib.hid hrl
  have ha0 := hea.at (k := 0) (by omega)
  have hx0 : (e :: r).getD 0 evNone = e := rfl
  rw [hx0] at ha0
  obtain ⟨x0, x1, x2, x3, x4, x5, x6, x7, x8⟩ := ev_cells hc1 (k := 0) (by omega) rfl
  simp only [Nat.zero_mul, Nat.add_zero] at x0 x1 x2 x3 x4 x5 x6 x7 x8
  have HS := Lib.hid hs
  have hsm := hs e (List.mem_cons_self ..)
  have HE := Lib.hid he
  have HT := Lib.hid ht
  have HM := Lib.hid hm
  clear hA hla hra hea hs he ht hm hnl hx0 hc1
  generalize la.getD 0 EvR.none = a0 at *
  have hsm0 := ha0.small hsm
  obtain ⟨ek', et', ⟨qk, qa, qv, qd, QA, qn, qc⟩, ei', OA, on, oc⟩ := a0
  have HAT := Lib.hid ha0
  have h1 := ha0.kind
  have h2 := ha0.thread
  have h3 := ha0.inn
  have h4 := ha0.len
  simp only at h1 h2 h3 h4 x0 x1 x2 x3 x4 x5 x6 x7 x8
  have hit := hi.thread
  have HI := Lib.hid hi
  have HSM0 := Lib.hid hsm0
  clear ha0 hsm hsm0 hi
  generalize hek : e.kind = ek at *
  generalize het : e.thread = et at *
  generalize hei : e.inn = ei at *
  subst h1 h2 h3
  have HEK := Lib.hid hek
  have HET := Lib.hid het
  have HEI := Lib.hid hei
  have H4 := Lib.hid h4
  clear hek het hei h4
  have HX : RowKit.Hid (Blk (w.alloc (.cells #[.int .i64 ek', .int .i64 et', .int .i64 qk, .int .i64 qa, .int .i64 qv, .bool qd, .slice QA qn qc, .int .i64 ei', .slice OA on oc] 74)) w.heap.size 74 [.int .i64 ek', .int .i64 et', .int .i64 qk, .int .i64 qa, .int .i64 qv, .bool qd, .slice QA qn qc, .int .i64 ei', .slice OA on oc]) := Lib.hid (Blk.new w _ _)
  have HB0 := Lib.hid ((Below.refl w.heap.size w).alloc (Nat.le_refl _) (.cells #[.int .i64 ek', .int .i64 et', .int .i64 qk, .int .i64 qa, .int .i64 qv, .bool qd, .slice QA qn qc, .int .i64 ei', .slice OA on oc] 74))
  have HIT := Lib.hid (fun W (h : Below w.heap.size w W) => Itoa_any et' hit W (HT.out.below h))
  have hz := itoaS_size hit
  have HON : RowKit.Hid (on ≤ 1048576) := Lib.hid HSM0.out.on
  have hon := HON.out
  have HIN := Lib.hid (fun W (h : Below w.heap.size w W) => Itoa_any ei' hin W (HT.out.below h))
  have hz2 := itoaS_size hin
  have HOR := Lib.hid HAT.out.rd
  have HOL : RowKit.Hid (e.outs.length = on) := Lib.hid HAT.out.len
  rw [HOL.out] at HPZ ⊢
  generalize itoaS et' = z at *
  generalize itoaS ei' = z2 at *
  have b1k : (ek' == 1) = false := beq_eq_false_iff_ne.2 hk1
  have b2k : (ek' == 2) = false := beq_eq_false_iff_ne.2 hk2
  have d0 : ¬ 9223372036854775807 < 1 + z.size := by omega
  have d1 : ¬ 9223372036854775807 < 4 + (1 + z.size) := by omega
  have d2 : ¬ 9223372036854775807 < 4 + (1 + z.size) + 1 := by omega
  have d3 : ¬ 9223372036854775807 < 4 + (1 + z.size) + 1 + z2.size := by omega
  clear hz hz2 hk1 hk2
  go_enter Tryz.func56, Tryz.ntmps56
  go_upto_region 2 with (fail)
  generalize w.alloc (.cells #[.int .i64 ek', .int .i64 et', .int .i64 qk, .int .i64 qa, .int .i64 qv, .bool qd, .slice QA qn qc, .int .i64 ei', .slice OA on oc] 74) = W0 at *
  have y0 := HX.out.cell (i := 0) rfl
  have y1 := HX.out.cell (i := 1) rfl
  have hgl := HX.out.lt
  go_upto_region 3 with (go_at_call 65; refine (HIT.out _ HB0.out).mono ?_; rintro er w1 ⟨rfl, hb1⟩; have HB1 := Lib.hid (HB0.out.trans (hb1.mono HB0.out.size)); have HX1 := Lib.hid (HX.out.below hb1 HX.out.lt); clear hb1)
  have y0 := HX1.out.cell (i := 0) rfl
  have y7 := HX1.out.cell (i := 7) rfl
  have hg1 := HX1.out.lt
  clear x0 x1 x2 x3 x4 x5 x6 x7 x8 y1
  go_upto_region 14 with (go_at_call 65; refine (HIN.out _ HB1.out).mono ?_; rintro er w2 ⟨rfl, hb2⟩; have HB2 := Lib.hid (HB1.out.trans (hb2.mono HB1.out.size)); have HX2 := Lib.hid (HX1.out.below hb2 HX1.out.lt); clear hb2)
  have y0 := HX2.out.cell (i := 0) rfl
  have y8 := HX2.out.cell (i := 8) rfl
  have hg2 := HX2.out.lt
  clear y7
  go_wp2_with fail
  go_loopg [68, 7] on (fun gg i v wr => ∃ k : Nat, k ≤ on ∧ gg = on - k ∧ i = .int .i64 k ∧ v = .string (pumpS e k) ∧ Below w2.heap.size w2 wr)
  case atStart => exact ⟨0, Nat.zero_le _, rfl, rfl, by rw [HP0.out]; rfl, Below.refl _ _⟩
  case round =>
    obtain ⟨k, hk, hg, rfl, rfl, hb⟩ := hrel
    have HQ := Lib.hid hg
    have HW := Lib.hid hb
    have HWW := Lib.hid (HB2.out.trans (hb.mono HB2.out.size))
    clear hg hb
    by_cases hlt : k < on
    · obtain ⟨b2, o2, rfl, hb2, hc2⟩ := (HOR.out.below HWW.out).at_ (by rw [ints_length, HOL.out]; omega)
      have hkl : k < e.outs.length := by rw [HOL.out]; exact hlt
      have v0 := hc2 k _ (ints_at hkl)
      have q1 : (0 : Int) ≤ (k : Int) := by omega
      have q2 : (k : Int) < (on : Int) := by omega
      have HK := Lib.hid (HPS.out k hkl)
      have hkz := HPZ.out k (by omega)
      have hxi : In64 (e.outs.getD k 0) := HOI.out _ (by rw [List.getD, List.getElem?_eq_getElem hkl]; exact List.getElem_mem _)
      have HIX := Lib.hid (fun W (h : Below w.heap.size w W) => Itoa_any (e.outs.getD k 0) hxi W (HT.out.below h))
      have hz3 := itoaS_size hxi
      generalize e.outs.getD k 0 = x at *
      generalize itoaS x = z3 at *
      generalize pumpS e k = pk at *
      have f0 : ¬ 9223372036854775807 < 1 + z3.size := by omega
      have f1 : ¬ 9223372036854775807 < pk.size + (1 + z3.size) := by omega
      clear hc2 hkl hkz hz3
      go_wp2_with (go_at_call 65; refine (HIX.out _ HWW.out).mono ?_; rintro er w3 ⟨rfl, hb3⟩; have HB3 := Lib.hid (HW.out.trans (hb3.mono HW.out.size)); clear hb3)
      go_roundg (on - (k + 1))
      case measure => rw [HQ.out]; omega
      case rel => exact ⟨k + 1, by omega, rfl, by go_num, by rw [HK.out, ByteArray.append_assoc], HB3.out⟩
    · obtain rfl : k = on := by omega
      have q2 : ¬ (k : Int) < (k : Int) := by omega
      go_wp2_with fail
      go_ret2
      exact ⟨rfl, HWW.out⟩

set_option maxHeartbeats 8000000 in
set_option maxRecDepth 100000 in
theorem say_pick (A : Option Addr) (n c : Nat) (e : Ev) (r : List Ev) (w : World) (hn : n ≤ 1048576) (hA : EvsIn w A n (e :: r)) (hi : EvIn e) (hs : ∀ x ∈ e :: r, EvSm x) (he : ErrT w) (ht : TabT w) (hm : MLT w) (hk : e.kind = 1) : Calls Tryz.prog 56 #[.slice A n c] w fun e' w' => e' = .returned (.tuple #[.string (evS e (grpQ (e :: r))), .int .i64 (grpQ (e :: r) : Nat)]) ∧ Below w.heap.size w w' := by
  have HG : RowKit.Hid (grpQ (e :: r) = runQ e 999 r + 1) := Lib.hid (grp_pick hk)
  have HP1 := Lib.hid (fun n => evS_pick1 (e := e) (n := n) hk)
  have HPN := Lib.hid (fun n => evS_pickN (e := e) (n := n) hk)
  have HRM := Lib.hid (fun i => run_more (e := e) (r := r) (i := i))
  have HRF := Lib.hid (fun i => run_far (e := e) (r := r) (i := i))
  have HRO := Lib.hid (fun i => run_out (e := e) (r := r) (i := i))
  have HRN := Lib.hid (fun i => run_not (e := e) (r := r) (i := i))
  rw [HG.out]
  have hnl := hA.len
  obtain ⟨la, hla, hra, hea⟩ := hA.ex
  have hn1 : 1 ≤ n := by rw [← hnl]; simp
  obtain ⟨b1, o1, rfl, hb1, hc1⟩ := hra.at_ (by rw [rows_length, hla]; exact Nat.mul_pos (by omega) (by decide))
  have HC1 := Lib.hid hc1
  have HBL := Lib.hid hb1
  have HEA := Lib.hid hea
  have HLA := Lib.hid hla
  have hrl : r.length + 1 = n := by rw [← hnl]; simp
  have HRL := Lib.hid hrl
  have ha0 := hea.at (k := 0) (by omega)
  have hx0 : (e :: r).getD 0 evNone = e := rfl
  rw [hx0] at ha0
  obtain ⟨x0, x1, x2, x3, x4, x5, x6, x7, x8⟩ := ev_cells hc1 (k := 0) (by omega) rfl
  simp only [Nat.zero_mul, Nat.add_zero] at x0 x1 x2 x3 x4 x5 x6 x7 x8
  have HS := Lib.hid hs
  have hsm := hs e (List.mem_cons_self ..)
  have HE := Lib.hid he
  have HT := Lib.hid ht
  have HM := Lib.hid hm
  clear hA hla hra hea hs he ht hm hnl hx0 hc1
  generalize la.getD 0 EvR.none = a0 at *
  have hsm0 := ha0.small hsm
  obtain ⟨ek', et', ⟨qk, qa, qv, qd, QA, qn, qc⟩, ei', OA, on, oc⟩ := a0
  have HAT := Lib.hid ha0
  have h1 := ha0.kind
  have h2 := ha0.thread
  have h3 := ha0.inn
  have h4 := ha0.len
  simp only at h1 h2 h3 h4 x0 x1 x2 x3 x4 x5 x6 x7 x8
  have hit := hi.thread
  have HI := Lib.hid hi
  have HSM0 := Lib.hid hsm0
  clear ha0 hsm hsm0 hi
  generalize hek : e.kind = ek at *
  generalize het : e.thread = et at *
  generalize hei : e.inn = ei at *
  subst h1 h2 h3
  have HEK := Lib.hid hek
  have HET := Lib.hid het
  have HEI := Lib.hid hei
  have H4 := Lib.hid h4
  clear hek het hei h4
  have HX : RowKit.Hid (Blk (w.alloc (.cells #[.int .i64 ek', .int .i64 et', .int .i64 qk, .int .i64 qa, .int .i64 qv, .bool qd, .slice QA qn qc, .int .i64 ei', .slice OA on oc] 74)) w.heap.size 74 [.int .i64 ek', .int .i64 et', .int .i64 qk, .int .i64 qa, .int .i64 qv, .bool qd, .slice QA qn qc, .int .i64 ei', .slice OA on oc]) := Lib.hid (Blk.new w _ _)
  have HB0 := Lib.hid ((Below.refl w.heap.size w).alloc (Nat.le_refl _) (.cells #[.int .i64 ek', .int .i64 et', .int .i64 qk, .int .i64 qa, .int .i64 qv, .bool qd, .slice QA qn qc, .int .i64 ei', .slice OA on oc] 74))
  have HIT := Lib.hid (fun W (h : Below w.heap.size w W) => Itoa_any et' hit W (HT.out.below h))
  have hz := itoaS_size hit
  have HU := Lib.hid Tryz.underlying74
  generalize hR : runQ e 999 r = R at *
  have HR0 : RowKit.Hid (0 + runQ e (999 - 0) (r.drop 0) = R) := Lib.hid (by rw [List.drop_zero, Nat.zero_add]; exact hR)
  have hz := itoaS_size hit
  generalize itoaS et' = z at *
  subst hk
  unfold w_pickS at HP1 HPN
  clear hR
  have d0 : ¬ 9223372036854775807 < 1 + z.size := by omega
  have d1 : ¬ 9223372036854775807 < 4 + (1 + z.size) := by omega
  go_enter Tryz.func56, Tryz.ntmps56
  go_upto_region 2 with (fail)
  generalize w.alloc (.cells #[.int .i64 1, .int .i64 et', .int .i64 qk, .int .i64 qa, .int .i64 qv, .bool qd, .slice QA qn qc, .int .i64 ei', .slice OA on oc] 74) = W0 at *
  have y0 := HX.out.cell (i := 0) rfl
  have y1 := HX.out.cell (i := 1) rfl
  have hgl := HX.out.lt
  go_upto_region 3 with (go_at_call 65; refine (HIT.out _ HB0.out).mono ?_; rintro er w1 ⟨rfl, hb1⟩; have HB1 := Lib.hid (HB0.out.trans (hb1.mono HB0.out.size)); have HX1 := Lib.hid (HX.out.below hb1 HX.out.lt); clear hb1)
  have y0 := HX1.out.cell (i := 0) rfl
  have hg1 := HX1.out.lt
  clear x0 x1 x2 x3 x4 x5 x6 x7 x8 y1
  go_wp2_with fail
  go_loopg [6] n (fun gg i wr => ∃ j m : Nat, j = m + 1 ∧ j ≤ n ∧ j ≤ 1000 ∧ gg = n + 1 - j ∧ i = .int .i64 j ∧ m + runQ e (999 - m) (r.drop m) = R ∧ Below w1.heap.size w1 wr)
  case atStart => exact ⟨1, 0, rfl, hn1, by omega, rfl, rfl, HR0.out, Below.refl _ _⟩
  case round =>
    obtain ⟨j, m, hjm, hjn, hj1, hg, rfl, hrun, hb⟩ := hrel
    have HQ := Lib.hid hg
    have HJ := Lib.hid hjm
    have HRUN := Lib.hid hrun
    have HW := Lib.hid hb
    have HWW := Lib.hid (HB1.out.trans (hb.mono HB1.out.size))
    clear hg hjm hrun hb
    have OUT : RowKit.Hid (runQ e (999 - m) (r.drop m) = 0 → R = m) := Lib.hid (fun h => by have := HRUN.out; omega)
    by_cases hlt : j < n
    · have q1 : (j : Int) < (n : Int) := by omega
      by_cases h1000 : j < 1000
      · have q2 : (j : Int) < 1000 := by omega
        have q3 : (0 : Int) ≤ (j : Int) := by omega
        have hjl : j < la.length := by rw [HLA.out]; exact hlt
        have hr1 := ev_range HC1.out hjl HBL.out HWW.out
        have hbw1 : b1 < wr.heap.size := Nat.lt_of_lt_of_le HBL.out HWW.out.size
        have he1 := (HEA.out.below HWW.out).at hjl
        have hml : m < r.length := by have := HJ.out; have := HRL.out; omega
        have hgm : (e :: r).getD j evNone = r.getD m evNone := by rw [HJ.out, List.getD_cons_succ]
        rw [hgm] at he1
        have hsm1 : EvSm (r.getD m evNone) := HS.out _ (List.mem_cons_of_mem _ (by rw [List.getD, List.getElem?_eq_getElem hml]; exact List.getElem_mem _))
        have hx2 := HX1.out.below HW.out hg1
        have hbw2 := hx2.lt
        have hr2 : wr.rangeAt w.heap.size 0 [.int .i64 1, .int .i64 et', .int .i64 qk, .int .i64 qa, .int .i64 qv, .bool qd, .slice QA qn qc, .int .i64 ei', .slice OA on oc] := fun j' v hv => by rw [Nat.zero_add]; exact hx2.cell hv
        have HE : RowKit.Hid (∀ W, Below wr.heap.size wr W → Calls Tryz.prog 27 #[.agg (la.getD j EvR.none).cells.toArray, .agg [.int .i64 1, .int .i64 et', .int .i64 qk, .int .i64 qa, .int .i64 qv, .bool qd, .slice QA qn qc, .int .i64 ei', .slice OA on oc].toArray] W fun e' w' => e' = .returned (.bool (decide (r.getD m evNone = e))) ∧ Below W.heap.size W w') := Lib.hid (fun W h => evSame_any (la.getD j EvR.none) ⟨1, et', ⟨qk, qa, qv, qd, QA, qn, qc⟩, ei', OA, on, oc⟩ _ _ W (he1.below h) (HAT.out.below (HWW.out.trans (h.mono HWW.out.size))) (he1.small hsm1) HSM0.out)
        have HI1 : RowKit.Hid ((Tryz.prog.info? 74).map (·.size) = some (la.getD j EvR.none).cells.length) := Lib.hid ev_size
        have HI2 : RowKit.Hid ((Tryz.prog.info? 74).map (·.size) = some ([.int .i64 1, .int .i64 et', .int .i64 qk, .int .i64 qa, .int .i64 qv, .bool qd, .slice QA qn qc, .int .i64 ei', .slice OA on oc] : List Value).length) := Lib.hid ev_size
        have HML := Lib.hid hml
        clear he1 hgm hsm1 hx2 hjl hml
        generalize (la.getD j EvR.none).cells = L1 at *
        generalize ([.int .i64 1, .int .i64 et', .int .i64 qk, .int .i64 qa, .int .i64 qv, .bool qd, .slice QA qn qc, .int .i64 ei', .slice OA on oc] : List Value) = L2 at *
        have HSB : RowKit.Hid (∀ w', Below wr.heap.size wr w' → (w'.rangeAt b1 (o1 + j * 9) L1 ∧ w'.rangeAt w.heap.size 0 L2)) := Lib.hid (fun w' hb => ⟨fun j' v hv => (hb.cell (p := ⟨b1, o1 + j * 9 + j', none⟩) hbw1).trans (hr1 j' v hv), fun j' v hv => (hb.cell (p := ⟨w.heap.size, 0 + j', none⟩) hbw2).trans (hr2 j' v hv)⟩)
        have HP0 : RowKit.Hid (Below wr.heap.size wr wr.drew) := Lib.hid (Below.drewN' (Below.refl wr.heap.size wr) 1)
        have hdv : decide (r.getD m evNone = e) = decide (r.getD m evNone = e) := rfl
        generalize hsv : decide (r.getD m evNone = e) = sv at HE
        have HSV := Lib.hid hsv
        clear hr1 hr2 hdv hsv
        go_upto_region 6 with (fail)
        refine wp_region_held_drew (S := fun w' => w'.rangeAt b1 (o1 + j * 9) L1 ∧ w'.rangeAt w.heap.size 0 L2) (by kernel_rfl) (HSB.out _ (Below.drewN' (Below.refl wr.heap.size wr) 1)) (fun hHeld => ?_)
        refine wpAnyH_take (i := 0) (v := .int .i64 j) rfl (by kernel_rfl) (by kernel_rfl) (by kernel_rfl) (fun _ _ _ h => h) (Or.inl ⟨by rfl, fun w hSw => by go_simp⟩) hHeld ?_
        try simp only [Act.put, List.getElem_toArray, List.getElem_cons_zero, List.setIfInBounds_toArray, List.set_cons_zero, List.set_cons_succ]
        refine wpAnyH_take (i := 1) (v := .slice (some ⟨b1, o1, none⟩) n c) rfl (by kernel_rfl) (by kernel_rfl) (by kernel_rfl) (fun _ _ _ h => h) (Or.inl ⟨by rfl, fun w hSw => by go_simp⟩) hHeld ?_
        try simp only [Act.put, List.getElem_toArray, List.getElem_cons_succ, List.getElem_cons_zero, List.setIfInBounds_toArray, List.set_cons_zero, List.set_cons_succ]
        refine wpAnyH_take (i := 2) (v := .int .i64 n) rfl (by kernel_rfl) (by kernel_rfl) (by kernel_rfl) (fun _ _ _ h => h) (Or.inl ⟨by rfl, fun w hSw => by go_simp⟩) hHeld ?_
        try simp only [Act.put, List.getElem_toArray, List.getElem_cons_succ, List.getElem_cons_zero, List.setIfInBounds_toArray, List.set_cons_zero, List.set_cons_succ]
        refine wpAnyH_take (i := 3) (v := .bool true) rfl (by kernel_rfl) (by kernel_rfl) (by kernel_rfl) (fun _ _ _ h => h) (Or.inl ⟨by rfl, fun w hSw => by go_simp⟩) hHeld ?_
        try simp only [Act.put, List.getElem_toArray, List.getElem_cons_succ, List.getElem_cons_zero, List.setIfInBounds_toArray, List.set_cons_zero, List.set_cons_succ]
        refine wpAnyH_take (i := 4) (v := .bool true) rfl (by kernel_rfl) (by kernel_rfl) (by kernel_rfl) (fun _ _ _ h => h) (Or.inl ⟨by rfl, fun w hSw => by go_simp⟩) hHeld ?_
        try simp only [Act.put, List.getElem_toArray, List.getElem_cons_succ, List.getElem_cons_zero, List.setIfInBounds_toArray, List.set_cons_zero, List.set_cons_succ]
        refine wpAnyH_take (i := 5) (v := .int .i64 j) rfl (by kernel_rfl) (by kernel_rfl) (by kernel_rfl) (fun _ _ _ h => h) (Or.inl ⟨by rfl, fun w hSw => by go_simp⟩) hHeld ?_
        try simp only [Act.put, List.getElem_toArray, List.getElem_cons_succ, List.getElem_cons_zero, List.setIfInBounds_toArray, List.set_cons_zero, List.set_cons_succ]
        refine wpAnyH_take (i := 6) (v := .bool true) rfl (by kernel_rfl) (by kernel_rfl) (by kernel_rfl) (fun _ _ _ h => h) (Or.inl ⟨by rfl, fun w hSw => by go_simp⟩) hHeld ?_
        try simp only [Act.put, List.getElem_toArray, List.getElem_cons_succ, List.getElem_cons_zero, List.setIfInBounds_toArray, List.set_cons_zero, List.set_cons_succ]
        refine wpAnyH_take (i := 7) (v := .bool true) rfl (by kernel_rfl) (by kernel_rfl) (by kernel_rfl) (fun _ _ _ h => h) (Or.inl ⟨by rfl, fun w hSw => by go_simp⟩) hHeld ?_
        try simp only [Act.put, List.getElem_toArray, List.getElem_cons_succ, List.getElem_cons_zero, List.setIfInBounds_toArray, List.set_cons_zero, List.set_cons_succ]
        refine wpAnyH_take (i := 8) (v := .bool true) rfl (by kernel_rfl) (by kernel_rfl) (by kernel_rfl) (fun _ _ _ h => h) (Or.inl ⟨by rfl, fun w hSw => by go_simp⟩) hHeld ?_
        try simp only [Act.put, List.getElem_toArray, List.getElem_cons_succ, List.getElem_cons_zero, List.setIfInBounds_toArray, List.set_cons_zero, List.set_cons_succ]
        refine wpAnyH_take (i := 9) (v := .slice (some ⟨b1, o1, none⟩) n c) rfl (by kernel_rfl) (by kernel_rfl) (by kernel_rfl) (fun _ _ _ h => h) (Or.inl ⟨by rfl, fun w hSw => by go_simp⟩) hHeld ?_
        try simp only [Act.put, List.getElem_toArray, List.getElem_cons_succ, List.getElem_cons_zero, List.setIfInBounds_toArray, List.set_cons_zero, List.set_cons_succ]
        refine wpAnyH_take (i := 10) (v := .int .i64 j) rfl (by kernel_rfl) (by kernel_rfl) (by kernel_rfl) (fun _ _ _ h => h) (Or.inl ⟨by rfl, fun w hSw => by go_simp⟩) hHeld ?_
        try simp only [Act.put, List.getElem_toArray, List.getElem_cons_succ, List.getElem_cons_zero, List.setIfInBounds_toArray, List.set_cons_zero, List.set_cons_succ]
        refine wpAnyH_take (i := 11) (v := .pointer (some ⟨b1, o1 + j * 9, none⟩)) rfl (by kernel_rfl) (by kernel_rfl) (by kernel_rfl) (fun _ _ _ h => h) (Or.inl ⟨by rfl, fun w hSw => by go_simp⟩) hHeld ?_
        try simp only [Act.put, List.getElem_toArray, List.getElem_cons_succ, List.getElem_cons_zero, List.setIfInBounds_toArray, List.set_cons_zero, List.set_cons_succ]
        refine wpAnyH_take (i := 12) (v := .agg L1.toArray) rfl (by kernel_rfl) (by kernel_rfl) (by kernel_rfl) (fun _ _ _ h => h) (yieldsIf_load_mid (by rfl) _ _ rfl _ _ rfl L1 _ (fun _ h => h.1) HU.out rfl HI1.out) hHeld ?_
        try simp only [Act.put, List.getElem_toArray, List.getElem_cons_succ, List.getElem_cons_zero, List.setIfInBounds_toArray, List.set_cons_zero, List.set_cons_succ]
        refine wpAnyH_take (i := 13) (v := .agg L2.toArray) rfl (by kernel_rfl) (by kernel_rfl) (by kernel_rfl) (fun _ _ _ h => h) (yieldsIf_load_mid (by rfl) _ _ rfl _ _ rfl L2 _ (fun _ h => h.2) HU.out rfl HI2.out) hHeld ?_
        try simp only [Act.put, List.getElem_toArray, List.getElem_cons_succ, List.getElem_cons_zero, List.setIfInBounds_toArray, List.set_cons_zero, List.set_cons_succ]
        refine wpAnyH_ready (rs := [14]) (by kernel_rfl) (by simp) ?_
        refine AllReadyH.cons rfl (fun K hK => ?_) AllReadyH.nil
        clear hHeld
        rw [if_pos (by rfl)]
        simp only [List.getElem_toArray, List.getElem_cons_succ, List.getElem_cons_zero]
        go_simp
        refine (HE.out wr.drew HP0.out).mono ?_
        rintro er v1 ⟨rfl, hb1⟩
        have hB1 : Below wr.heap.size wr v1 := ⟨hb1.os, hb1.tape, hb1.output, hb1.size, hb1.block⟩
        go_wp2_with fail
        refine hK.out _ _ (HSB.out _ hB1) (fun hHeld => ?_)
        clear hK K
        try simp only [Act.put, List.getElem_toArray, List.getElem_cons_succ, List.getElem_cons_zero, List.setIfInBounds_toArray, List.set_cons_zero, List.set_cons_succ]
        refine wpAnyH_take (i := 15) (v := .bool sv) rfl (by kernel_rfl) (by kernel_rfl) (by kernel_rfl) (fun _ _ _ h => h) (Or.inl ⟨by rfl, fun w hSw => by go_simp⟩) hHeld ?_
        try simp only [Act.put, List.getElem_toArray, List.getElem_cons_succ, List.getElem_cons_zero, List.setIfInBounds_toArray, List.set_cons_zero, List.set_cons_succ]
        clear hHeld
        refine wpAnyH_done (by kernel_rfl) ?_ _
        have HB2 := Lib.hid (HW.out.trans (hB1.mono HW.out.size))
        clear hb1 hB1
        cases sv with
        | true =>
          have HNX : RowKit.Hid (m + 1 + runQ e (999 - (m + 1)) (r.drop (m + 1)) = R) := Lib.hid (by
            have h1 := HRM.out m HML.out (by have := HJ.out; omega) (of_decide_eq_true HSV.out)
            have := HRUN.out
            omega)
          go_wp2_with fail
          go_roundg (n + 1 - (j + 1))
          case measure => rw [HQ.out]; omega
          case rel => exact ⟨j + 1, m + 1, by rw [HJ.out], by omega, by omega, rfl, by go_num, HNX.out, HB2.out⟩
        | false =>
          have HRE := Lib.hid (OUT.out (HRN.out m HML.out (by have := HJ.out; omega) (of_decide_eq_false HSV.out)))
          have HFB := Lib.hid (HB1.out.trans (HB2.out.mono HB1.out.size))
          have hji : In64 (j : Int) := ⟨by omega, by omega⟩
          have HRJ : RowKit.Hid (R + 1 = j) := Lib.hid (by rw [HRE.out, HJ.out])
          have HRI : RowKit.Hid ((R : Int) + 1 = (j : Int)) := Lib.hid (by have := HRJ.out; omega)
          have HIJ := Lib.hid (fun W (h : Below w.heap.size w W) => Itoa_any (j : Int) hji W (HT.out.below h))
          have hzj := itoaS_size hji
          by_cases hj : 1 < j
          · have q5 : (1 : Int) < (j : Int) := by omega
            have q5n : 1 < j := hj
            have HVE := Lib.hid (HPN.out j hj)
            generalize itoaS (j : Int) = zj at *
            have f0 : ¬ 9223372036854775807 < 1 + zj.size := by omega
            have f1 : ¬ 9223372036854775807 < 1 + z.size + (1 + zj.size) := by omega
            have f2 : ¬ 9223372036854775807 < 4 + (1 + z.size + (1 + zj.size)) := by omega
            clear hzj
            go_wp2_with (go_at_call 65; refine (HIJ.out _ HFB.out).mono ?_; rintro er w5 ⟨rfl, hb5⟩; have HB5 := Lib.hid (HFB.out.trans (hb5.mono HFB.out.size)); clear hb5)
            go_ret2
            exact ⟨by first | (rw [HRJ.out, HVE.out, HRI.out]; rfl) | (rw [HRJ.out, HVE.out]; rfl), HB5.out⟩
          · have q5 : ¬ (1 : Int) < (j : Int) := by omega
            have q5n : ¬ 1 < j := hj
            have HVE := Lib.hid (HP1.out j hj)
            clear hzj
            go_wp2_with fail
            go_ret2
            exact ⟨by first | (rw [HRJ.out, HVE.out, HRI.out]; rfl) | (rw [HRJ.out, HVE.out]; rfl), HFB.out⟩
      · have q2 : ¬ (j : Int) < 1000 := by omega
        have HRE := Lib.hid (OUT.out (HRF.out m (by have := HJ.out; omega)))
        go_upto_region 6 with (fail)
        go_quiet (fail)
        have HFB : RowKit.Hid (Below w.heap.size w (wr.drewN nq)) := Lib.hid (Below.drewN' HWW.out nq)
        have hji : In64 (j : Int) := ⟨by omega, by omega⟩
        have HRJ : RowKit.Hid (R + 1 = j) := Lib.hid (by rw [HRE.out, HJ.out])
        have HRI : RowKit.Hid ((R : Int) + 1 = (j : Int)) := Lib.hid (by have := HRJ.out; omega)
        have HIJ := Lib.hid (fun W (h : Below w.heap.size w W) => Itoa_any (j : Int) hji W (HT.out.below h))
        have hzj := itoaS_size hji
        by_cases hj : 1 < j
        · have q5 : (1 : Int) < (j : Int) := by omega
          have q5n : 1 < j := hj
          have HVE := Lib.hid (HPN.out j hj)
          generalize itoaS (j : Int) = zj at *
          have f0 : ¬ 9223372036854775807 < 1 + zj.size := by omega
          have f1 : ¬ 9223372036854775807 < 1 + z.size + (1 + zj.size) := by omega
          have f2 : ¬ 9223372036854775807 < 4 + (1 + z.size + (1 + zj.size)) := by omega
          clear hzj
          go_wp2_with (go_at_call 65; refine (HIJ.out _ HFB.out).mono ?_; rintro er w5 ⟨rfl, hb5⟩; have HB5 := Lib.hid (HFB.out.trans (hb5.mono HFB.out.size)); clear hb5)
          go_ret2
          exact ⟨by first | (rw [HRJ.out, HVE.out, HRI.out]; rfl) | (rw [HRJ.out, HVE.out]; rfl), HB5.out⟩
        · have q5 : ¬ (1 : Int) < (j : Int) := by omega
          have q5n : ¬ 1 < j := hj
          have HVE := Lib.hid (HP1.out j hj)
          clear hzj
          go_wp2_with fail
          go_ret2
          exact ⟨by first | (rw [HRJ.out, HVE.out, HRI.out]; rfl) | (rw [HRJ.out, HVE.out]; rfl), HFB.out⟩
    · have q1 : ¬ (j : Int) < (n : Int) := by omega
      have HRE := Lib.hid (OUT.out (HRO.out m (by have := HJ.out; have := HRL.out; omega)))
      go_upto_region 6 with (fail)
      go_quiet (fail)
      have HFB : RowKit.Hid (Below w.heap.size w (wr.drewN nq)) := Lib.hid (Below.drewN' HWW.out nq)
      have hji : In64 (j : Int) := ⟨by omega, by omega⟩
      have HRJ : RowKit.Hid (R + 1 = j) := Lib.hid (by rw [HRE.out, HJ.out])
      have HRI : RowKit.Hid ((R : Int) + 1 = (j : Int)) := Lib.hid (by have := HRJ.out; omega)
      have HIJ := Lib.hid (fun W (h : Below w.heap.size w W) => Itoa_any (j : Int) hji W (HT.out.below h))
      have hzj := itoaS_size hji
      by_cases hj : 1 < j
      · have q5 : (1 : Int) < (j : Int) := by omega
        have q5n : 1 < j := hj
        have HVE := Lib.hid (HPN.out j hj)
        generalize itoaS (j : Int) = zj at *
        have f0 : ¬ 9223372036854775807 < 1 + zj.size := by omega
        have f1 : ¬ 9223372036854775807 < 1 + z.size + (1 + zj.size) := by omega
        have f2 : ¬ 9223372036854775807 < 4 + (1 + z.size + (1 + zj.size)) := by omega
        clear hzj
        go_wp2_with (go_at_call 65; refine (HIJ.out _ HFB.out).mono ?_; rintro er w5 ⟨rfl, hb5⟩; have HB5 := Lib.hid (HFB.out.trans (hb5.mono HFB.out.size)); clear hb5)
        go_ret2
        exact ⟨by first | (rw [HRJ.out, HVE.out, HRI.out]; rfl) | (rw [HRJ.out, HVE.out]; rfl), HB5.out⟩
      · have q5 : ¬ (1 : Int) < (j : Int) := by omega
        have q5n : ¬ 1 < j := hj
        have HVE := Lib.hid (HP1.out j hj)
        clear hzj
        go_wp2_with fail
        go_ret2
        exact ⟨by first | (rw [HRJ.out, HVE.out, HRI.out]; rfl) | (rw [HRJ.out, HVE.out]; rfl), HFB.out⟩

theorem say_any (A : Option Addr) (n c : Nat) (e : Ev) (r : List Ev) (w : World) (hn : n ≤ 1048576) (hA : EvsIn w A n (e :: r)) (hi : EvIn e) (hs : ∀ x ∈ e :: r, EvSm x) (he : ErrT w) (ht : TabT w) (hm : MLT w) : Calls Tryz.prog 56 #[.slice A n c] w fun e' w' => e' = .returned (.tuple #[.string (evS e (grpQ (e :: r))), .int .i64 (grpQ (e :: r) : Nat)]) ∧ Below w.heap.size w w' := by
  by_cases h1 : e.kind = 1
  · exact say_pick A n c e r w hn hA hi hs he ht hm h1
  · by_cases h2 : e.kind = 2
    · exact say_call A n c e r w hn hA hi hs he ht hm h2
    · exact say_pump A n c e r w hn hA hi hs he ht hm h1 h2

end Go.Proofs.YtalkllfgedacoaaGreatDoor

namespace Go.Proofs.YtalkllfgedacoaaGreatDoor
open Go.RowKit Go.Sort

theorem take_snocE {l r : List Ev} {k : Nat} (hl : k < l.length) (hr : k < r.length) (h : l.take k = r.take k) (he : l.getD k evNone = r.getD k evNone) : l.take (k + 1) = r.take (k + 1) := by
  have e1 : l.getD k evNone = l[k] := by rw [List.getD, List.getElem?_eq_getElem hl]; rfl
  have e2 : r.getD k evNone = r[k] := by rw [List.getD, List.getElem?_eq_getElem hr]; rfl
  rw [List.take_succ_eq_append_getElem hl, List.take_succ_eq_append_getElem hr, h, ← e1, ← e2, he]

set_option maxHeartbeats 8000000 in
set_option maxRecDepth 100000 in
theorem EqFunc_any (A B : Option Addr) (n m c d : Nat) (x y : List Ev) (w : World) (hn : n ≤ 1048576) (hm : m ≤ 1048576) (hA : EvsIn w A n x) (hB : EvsIn w B m y) (hx : ∀ e ∈ x, EvSm e) (hy : ∀ e ∈ y, EvSm e) :
    Calls Tryz.prog 60 #[.slice A n c, .slice B m d, .func (.func 27) #[] #[]] w fun e w' => e = .returned (.bool (decide (x = y))) ∧ Below w.heap.size w w' := by
  have hxl := hA.len
  have hyl := hB.len
  obtain ⟨la, hla, hra, hea⟩ := hA.ex
  obtain ⟨lb, hlb, hrb, heb⟩ := hB.ex
  have HLA := Lib.hid hla
  have HRA := Lib.hid hra
  have HEA := Lib.hid hea
  have HLB := Lib.hid hlb
  have HRB := Lib.hid hrb
  have HEB := Lib.hid heb
  have HX := Lib.hid hx
  have HY := Lib.hid hy
  have HXL := Lib.hid hxl
  have HYL := Lib.hid hyl
  clear hA hB hla hra hea hlb hrb heb hx hy hxl hyl
  by_cases hnm : n = m
  case neg =>
    have q0 : ((n : Int) == (m : Int)) = false := by rw [beq_eq_false_iff_ne]; omega
    have q1 : ((n : Int) != (m : Int)) = true := by rw [bne_iff_ne]; omega
    have HV : RowKit.Hid (decide (x = y) = false) := Lib.hid (decide_eq_false (fun e => hnm (by rw [← HXL.out, ← HYL.out, e])))
    clear hnm
    go_enter Tryz.func60, Tryz.ntmps60
    go_wp2_with fail
    go_ret
    exact ⟨by rw [HV.out]; rfl, Below.refl _ _⟩
  subst hnm
  go_enter Tryz.func60, Tryz.ntmps60
  go_wp2_with fail
  go_loopg [17] n (fun gg i wr => ∃ k : Nat, k ≤ n ∧ gg = n - k ∧ i = .int .i64 k ∧ x.take k = y.take k ∧ Below w.heap.size w wr)
  case atStart => exact ⟨0, Nat.zero_le _, rfl, rfl, rfl, Below.refl _ _⟩
  case round =>
    obtain ⟨k, hk, hg, rfl, ht, hb⟩ := hrel
    have HG := Lib.hid hg
    have HTK := Lib.hid ht
    have HBW := Lib.hid hb
    clear hg ht hb
    by_cases hlt : k < n
    · have q1 : (k : Int) < (n : Int) := by omega
      have q2 : (0 : Int) ≤ (k : Int) := by omega
      have hk1 : k < la.length := by rw [HLA.out]; exact hlt
      have hk2 : k < lb.length := by rw [HLB.out]; exact hlt
      have hx1 : k < x.length := by rw [HXL.out]; exact hlt
      have hy1 : k < y.length := by rw [HYL.out]; exact hlt
      obtain ⟨b1, o1, rfl, hb1, hc1⟩ := (HRA.out.below HBW.out).at_ (by rw [rows_length]; exact Nat.mul_pos (by omega) (by decide))
      obtain ⟨b2, o2, rfl, hb2, hc2⟩ := (HRB.out.below HBW.out).at_ (by rw [rows_length]; exact Nat.mul_pos (by omega) (by decide))
      obtain ⟨x0, x1, x2, x3, x4, x5, x6, x7, x8⟩ := ev_cells hc1 hk1 rfl
      obtain ⟨y0, y1, y2, y3, y4, y5, y6, y7, y8⟩ := ev_cells hc2 hk2 rfl
      have he1 := (HEA.out.below HBW.out).at hk1
      have he2 := (HEB.out.below HBW.out).at hk2
      have hs1 : EvSm (x.getD k evNone) := HX.out _ (by rw [List.getD, List.getElem?_eq_getElem hx1]; exact List.getElem_mem _)
      have hs2 : EvSm (y.getD k evNone) := HY.out _ (by rw [List.getD, List.getElem?_eq_getElem hy1]; exact List.getElem_mem _)
      have HNE : RowKit.Hid (¬ x.getD k evNone = y.getD k evNone → decide (x = y) = false) := Lib.hid (fun h => decide_eq_false (fun e => h (by rw [e])))
      have HSN : RowKit.Hid (x.getD k evNone = y.getD k evNone → x.take (k + 1) = y.take (k + 1)) := Lib.hid (fun h => take_snocE hx1 hy1 HTK.out h)
      have HE := Lib.hid (fun W (h : Below wr.heap.size wr W) => evSame_any (la.getD k EvR.none) (lb.getD k EvR.none) _ _ W (he1.below h) (he2.below h) (he1.small hs1) (he2.small hs2))
      generalize la.getD k EvR.none = a at *
      generalize lb.getD k EvR.none = b at *
      obtain ⟨k1, t1, ⟨qk1, qa1, qv1, qd1, QA1, qn1, qc1⟩, i1, OA1, on1, oc1⟩ := a
      obtain ⟨k2, t2, ⟨qk2, qa2, qv2, qd2, QA2, qn2, qc2⟩, i2, OA2, on2, oc2⟩ := b
      unfold evV at HE
      simp only at x0 x1 x2 x3 x4 x5 x6 x7 x8 y0 y1 y2 y3 y4 y5 y6 y7 y8 HE
      have HB0 := Lib.hid (((Below.refl wr.heap.size wr).alloc (Nat.le_refl _) (.cells #[.int .i64 k1, .int .i64 t1, .int .i64 qk1, .int .i64 qa1, .int .i64 qv1, .bool qd1, .slice QA1 qn1 qc1, .int .i64 i1, .slice OA1 on1 oc1] 74)).alloc (by simp) (.cells #[.int .i64 k2, .int .i64 t2, .int .i64 qk2, .int .i64 qa2, .int .i64 qv2, .bool qd2, .slice QA2 qn2 qc2, .int .i64 i2, .slice OA2 on2 oc2] 74))
      have HX1 : RowKit.Hid (Blk ((wr.alloc (.cells #[.int .i64 k1, .int .i64 t1, .int .i64 qk1, .int .i64 qa1, .int .i64 qv1, .bool qd1, .slice QA1 qn1 qc1, .int .i64 i1, .slice OA1 on1 oc1] 74)).alloc (.cells #[.int .i64 k2, .int .i64 t2, .int .i64 qk2, .int .i64 qa2, .int .i64 qv2, .bool qd2, .slice QA2 qn2 qc2, .int .i64 i2, .slice OA2 on2 oc2] 74)) wr.heap.size 74 [.int .i64 k1, .int .i64 t1, .int .i64 qk1, .int .i64 qa1, .int .i64 qv1, .bool qd1, .slice QA1 qn1 qc1, .int .i64 i1, .slice OA1 on1 oc1]) := Lib.hid ((Blk.new wr _ _).alloc _)
      have HX2 : RowKit.Hid (Blk ((wr.alloc (.cells #[.int .i64 k1, .int .i64 t1, .int .i64 qk1, .int .i64 qa1, .int .i64 qv1, .bool qd1, .slice QA1 qn1 qc1, .int .i64 i1, .slice OA1 on1 oc1] 74)).alloc (.cells #[.int .i64 k2, .int .i64 t2, .int .i64 qk2, .int .i64 qa2, .int .i64 qv2, .bool qd2, .slice QA2 qn2 qc2, .int .i64 i2, .slice OA2 on2 oc2] 74)) (wr.heap.size + 1) 74 [.int .i64 k2, .int .i64 t2, .int .i64 qk2, .int .i64 qa2, .int .i64 qv2, .bool qd2, .slice QA2 qn2 qc2, .int .i64 i2, .slice OA2 on2 oc2]) := Lib.hid (blk_new (by simp))
      clear he1 he2 hs1 hs2 hc1 hc2 hk1 hk2 hx1 hy1
      generalize hsv : decide (x.getD k evNone = y.getD k evNone) = sv at *
      have HSV := Lib.hid hsv
      clear hsv
      have b1l := Nat.lt_of_lt_of_le hb2 HB0.out.size
      cases sv with
      | true =>
        have HN1 := Lib.hid (HSN.out (of_decide_eq_true HSV.out))
        go_wp2_with (go_at_call 27; refine (HE.out _ HB0.out).mono ?_; rintro er w1 ⟨rfl, hb1⟩; have HB1 := Lib.hid (HBW.out.trans ((HB0.out.trans (hb1.mono HB0.out.size)).mono HBW.out.size)); clear hb1)
        go_roundg (n - (k + 1))
        case measure => rw [HG.out]; omega
        case rel => exact ⟨k + 1, by omega, rfl, by go_num, HN1.out, HB1.out⟩
      | false =>
        have HV := Lib.hid (HNE.out (of_decide_eq_false HSV.out))
        go_wp2_with (go_at_call 27; refine (HE.out _ HB0.out).mono ?_; rintro er w1 ⟨rfl, hb1⟩; have HB1 := Lib.hid (HBW.out.trans ((HB0.out.trans (hb1.mono HB0.out.size)).mono HBW.out.size)); clear hb1)
        go_ret
        exact ⟨by rw [HV.out]; rfl, HB1.out⟩
    · obtain rfl : k = n := by omega
      have q1 : ¬ (k : Int) < (k : Int) := by omega
      have HV : RowKit.Hid (decide (x = y) = true) := Lib.hid (decide_eq_true (by
        have h := HTK.out
        rwa [List.take_of_length_le (by rw [HXL.out]; exact Nat.le_refl _), List.take_of_length_le (by rw [HYL.out]; exact Nat.le_refl _)] at h))
      go_wp2_with fail
      go_ret
      exact ⟨by rw [HV.out]; rfl, HBW.out⟩

end Go.Proofs.YtalkllfgedacoaaGreatDoor
