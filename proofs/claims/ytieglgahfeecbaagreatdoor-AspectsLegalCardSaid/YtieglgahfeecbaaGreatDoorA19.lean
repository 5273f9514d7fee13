/- fifo, object: a queue at first, and its words: walked. -/
import Derived.Test.YtieglgahfeecbaaGreatDoorA17
import Derived.Test.YtieglgahfeecbaaGreatDoorA18
import Derived.Test.YtieglgahfeecbaaGreatDoorA5
import Derived.Test.YtieglgahfeecbaaGreatDoorA9
namespace Go.Proofs.YtieglgahfeecbaaGreatDoor
open Go.RowKit Go.Sort

/-- A note, and its cases, without where they lie. -/
def Nte.p (x : Nte) (cs : List Cse) : NtP := ⟨x.kind, x.thread, x.seq, ⟨x.rkind, x.rarg, x.rvalue, x.rdef, cs⟩, ⟨x.qseq, x.qcase, x.qcode, x.qvalue⟩⟩
def Like (ns : List Nte) (ps : List NtP) : Prop := ps.length = ns.length ∧ ∀ k, k < ns.length → ∃ cs, ps.getD k NtP.none = (ns.getD k Nte.none).p cs

instance (y : OpP) : Decidable (liveQ y) := by unfold liveQ; infer_instance
/-- Which call a thread is in, if it is in one of a queue. -/
def curOf (y : OpP) (k : Nat) : Option Nat := if liveQ y then some k else none
theorem curOf_pos {y : OpP} (h : liveQ y) (k : Nat) : curOf y k = some k := if_pos h
theorem curOf_neg {y : OpP} (h : ¬ liveQ y) (k : Nat) : curOf y k = .none := if_neg h

structure ASim (c : Cfg) (NS : List Nte) (PS : List NtP) (K : List KnP) (s : StP) (z : TS) (x : CellsP) : Prop where
  n : z.n = s.at_
  kn : knowK c.threads.toNat PS s.at_ = some K
  rec_ : s.rec_ = cellsI c.cap x
  fit : FitC c x
  len : (s.l.length : Int) = c.threads
  klen : K.length = s.l.length
  on : ∀ t, t < s.l.length → (K.getD t KnP.none).on = (s.l.getD t OpP.none).on
  ok : ∀ t, t < s.l.length → (s.l.getD t OpP.none).on = true → inB (s.l.getD t OpP.none).seq 0 1048575 = true ∧ fitsQ (s.l.getD t OpP.none).req = true
  out : (runN 0 NS s.at_).out = (List.range z.m).map z.C
  last : ∀ t : Nat, t < s.l.length → (runN 0 NS s.at_).last (t : Int) = curOf (s.l.getD t OpP.none) (z.cur t)
  aq : AQ s.l.length (fun t => s.l.getD t OpP.none) (fun t => x.done.getD t Resr.none) x.list z

theorem set_upd {α : Type} (l : List α) (d : α) {t : Nat} (h : t < l.length) (y : α) : (fun u => (l.set t y).getD u d) = upd (fun u => l.getD u d) t y := by
  funext u
  rw [upd_at]
  by_cases e : u = t
  · subst e; rw [if_pos rfl]; simp [List.getD, h]
  · rw [if_neg e]; simp [List.getD, Ne.symm e]
theorem set_at {α : Type} (l : List α) (d : α) {t : Nat} (h : t < l.length) (y : α) (u : Nat) : (l.set t y).getD u d = if u = t then y else l.getD u d := by
  have := congrFun (set_upd l d h y) u
  simpa [upd_at] using this

theorem effK_mem {c : Cfg} {s s' : StP} : ∀ k, s' ∈ effK c s k → ∃ t, t < k ∧ (s.l.getD t OpP.none).on = true ∧ (s.l.getD t OpP.none).applied = false ∧ 0 < (s.l.getD t OpP.none).seq ∧
    s' = ⟨s.at_, applyO c s.rec_ t (s.l.getD t OpP.none).seq (s.l.getD t OpP.none).req, s.l.set t ⟨(s.l.getD t OpP.none).on, true, (s.l.getD t OpP.none).seq, (s.l.getD t OpP.none).req⟩⟩
  | 0, h => by simp [effK] at h
  | k + 1, h => by
    simp only [effK, List.mem_append] at h
    rcases h with h | h
    · obtain ⟨t, h1, h2⟩ := effK_mem k h
      exact ⟨t, by omega, h2⟩
    · split at h
      · rename_i hc
        simp only [List.mem_singleton] at h
        exact ⟨k, by omega, hc.1, hc.2.1, hc.2.2, h⟩
      · cases h

theorem know_step {th : Nat} {PS : List NtP} {K : List KnP} {k : Nat} (hk : knowK th PS k = some K) (hs : ∃ K', knowK th PS (k + 1) = some K') :
    noteOk K (PS.getD k NtP.none) = true ∧ knowK th PS (k + 1) = some (nextK K (PS.getD k NtP.none)) := by
  obtain ⟨K', h⟩ := hs
  have h0 := h
  rw [knowK, hk] at h
  simp only at h
  split at h
  · rename_i h1
    refine ⟨h1, ?_⟩
    rw [knowK, hk]
    simp only [h1, if_true]
  · cases h

theorem nextK_at {K : List KnP} {n : NtP} (h : inL K.length n.thread) (u : Nat) : (nextK K n).getD u KnP.none = if u = n.thread.toNat then stepK (K.getD n.thread.toNat KnP.none) n else K.getD u KnP.none := by
  unfold inL at h
  exact set_at K KnP.none (by omega) _ u

section
variable {c : Cfg} {NS : List Nte} {PS : List NtP} {K : List KnP} {s s' : StP} {z : TS} {x : CellsP}

/-- A thread's call is changed, and what is known of it; the record stands. -/
theorem ASim.note_ (h : ASim c NS PS K s z x) {n : NtP} (hok : noteOk K n = true) (hkn : knowK c.threads.toNat PS (s.at_ + 1) = some (nextK K n))
    (y : OpP) (hy : y.on = (stepK (K.getD n.thread.toNat KnP.none) n).on) (hyok : y.on = true → inB y.seq 0 1048575 = true ∧ fitsQ y.req = true) (z' : TS) (hz : z'.n = z.n + 1)
    (hout : (runN 0 NS (s.at_ + 1)).out = (List.range z'.m).map z'.C)
    (hlast : ∀ t : Nat, t < s.l.length → (runN 0 NS (s.at_ + 1)).last (t : Int) = curOf (upd (fun t => s.l.getD t OpP.none) n.thread.toNat y t) (z'.cur t))
    (haq : AQ s.l.length (upd (fun t => s.l.getD t OpP.none) n.thread.toNat y) (fun t => x.done.getD t Resr.none) x.list z') :
    ∃ K' z' x', ASim c NS PS K' ⟨s.at_ + 1, s.rec_, s.l.set n.thread.toNat y⟩ z' x' := by
  have hin : inL K.length n.thread := by
    simp only [noteOk, Bool.and_eq_true, decide_eq_true_eq] at hok
    exact hok.1.1
  have ht : n.thread.toNat < s.l.length := by
    have := h.klen
    unfold inL at hin
    omega
  refine ⟨nextK K n, z', x, ⟨?_, hkn, h.rec_, h.fit, ?_, ?_, ?_, ?_, hout, ?_, ?_⟩⟩
  · rw [hz, h.n]
  · simpa using h.len
  · simp [nextK, h.klen]
  · intro u hu
    simp only [List.length_set] at hu
    rw [nextK_at hin, set_at _ _ ht]
    by_cases e : u = n.thread.toNat
    · rw [if_pos e, if_pos e, hy]
    · rw [if_neg e, if_neg e]; exact h.on u hu
  · intro u hu
    simp only [List.length_set] at hu
    rw [set_at _ _ ht]
    by_cases e : u = n.thread.toNat
    · rw [if_pos e]; exact hyok
    · rw [if_neg e]; exact h.ok u hu
  · intro u hu
    simp only [List.length_set] at hu
    rw [set_at _ _ ht]
    exact hlast u hu
  · simp only [List.length_set]
    rw [set_upd _ _ ht]
    exact haq

/-- A call has its effect. -/
theorem ASim.eff_ (hc : chkB c = true) (hk : c.kind = 1) (h : ASim c NS PS K s z x) {t : Nat} (ht : t < s.l.length) (hon : (s.l.getD t OpP.none).on = true) (ha : (s.l.getD t OpP.none).applied = false) :
    ∃ K' z' x', ASim c NS PS K' ⟨s.at_, applyO c s.rec_ t (s.l.getD t OpP.none).seq (s.l.getD t OpP.none).req, s.l.set t ⟨(s.l.getD t OpP.none).on, true, (s.l.getD t OpP.none).seq, (s.l.getD t OpP.none).req⟩⟩ z' x' := by
  have hk3 : ¬ c.kind = 3 := by omega
  have hlen := h.len
  have hok := h.ok t ht hon
  obtain ⟨e1, f1⟩ := applyO_cells (t := t) hc hk3 h.fit (by omega) hok.1 hok.2
  have hk2 : decide (c.kind = 2) = false := by simp [hk]
  rw [hk2] at e1 f1
  rw [h.rec_, e1]
  have hd : x.done.length = s.l.length := by have := h.fit.ndn; omega
  have hdone : ∀ (q : ReqP) (seq : Int), (applyC false x t seq q).done = x.done.set t ⟨seq, 0, (stpC false x.cap x.list q).2.1, (stpC false x.cap x.list q).2.2⟩ := fun q seq => by
    unfold applyC setR
    simp only
    rw [if_pos (by unfold inL; omega), Int.toNat_natCast]
  have hL : (fun u => (s.l.set t ⟨(s.l.getD t OpP.none).on, true, (s.l.getD t OpP.none).seq, (s.l.getD t OpP.none).req⟩).getD u OpP.none) = upd (fun u => s.l.getD u OpP.none) t ⟨(s.l.getD t OpP.none).on, true, (s.l.getD t OpP.none).seq, (s.l.getD t OpP.none).req⟩ := set_upd _ _ ht _
  generalize hy : s.l.getD t OpP.none = y at *
  have hat : (fun u => s.l.getD u OpP.none) t = y := hy
  suffices hs : ∃ z', z'.n = z.n ∧ z'.m = z.m ∧ z'.C = z.C ∧ z'.cur = z.cur ∧ AQ s.l.length (upd (fun u => s.l.getD u OpP.none) t ⟨y.on, true, y.seq, y.req⟩) (upd (fun u => x.done.getD u Resr.none) t ⟨y.seq, 0, (stpC false x.cap x.list y.req).2.1, (stpC false x.cap x.list y.req).2.2⟩) (stpC false x.cap x.list y.req).1 z' by
    obtain ⟨z', g1, g2, g3, g4, g5⟩ := hs
    refine ⟨K, z', applyC false x t y.seq y.req, ⟨?_, h.kn, rfl, f1, ?_, ?_, ?_, ?_, ?_, ?_, ?_⟩⟩
    · rw [g1]; exact h.n
    · simpa using h.len
    · simpa using h.klen
    · intro u hu
      simp only [List.length_set] at hu
      rw [set_at _ _ ht]
      by_cases e : u = t
      · subst e; rw [if_pos rfl, h.on u hu, hy]
      · rw [if_neg e]; exact h.on u hu
    · intro u hu
      simp only [List.length_set] at hu
      rw [set_at _ _ ht]
      by_cases e : u = t
      · rw [if_pos e]; exact fun _ => hok
      · rw [if_neg e]; exact h.ok u hu
    · rw [g2, g3]; exact h.out
    · intro u hu
      simp only [List.length_set] at hu
      rw [set_at _ _ ht, g4, h.last u hu]
      by_cases e : u = t
      · subst e; rw [if_pos rfl, hy]; rfl
      · rw [if_neg e]
    · simp only [List.length_set]
      rw [hL, hdone, set_upd _ _ (by omega)]
      exact g5
  by_cases k8 : y.req.kind = 8
  · have hlv : liveQ ((fun u => s.l.getD u OpP.none) t) := by rw [hat]; exact ⟨hon, .inl k8⟩
    by_cases hr : (x.list.length : Int) < x.cap
    · have e : stpC false x.cap x.list y.req = (x.list ++ [y.req.value], 0, 0) := by simp [stpC, k8, hr]
      rw [e]
      have g := h.aq.effP (t := t) ht hlv (by rw [hy]; exact k8) (by rw [hy]; exact ha) ⟨y.on, true, y.seq, y.req⟩ (by rw [hy]) ⟨y.seq, 0, 0, 0⟩
      rw [hy] at g
      exact ⟨z.drawP t, rfl, rfl, rfl, rfl, g⟩
    · have e : stpC false x.cap x.list y.req = (x.list, 10, 0) := by simp [stpC, k8, hr]
      rw [e]
      have g := h.aq.effN (t := t) ht hlv (by rw [hy]; exact ha) (by rw [hy]; omega) ⟨y.on, true, y.seq, y.req⟩ (by rw [hy]) ⟨y.seq, 0, 10, 0⟩ rfl
      exact ⟨z, rfl, rfl, rfl, rfl, g⟩
  · by_cases k9 : y.req.kind = 9
    · have hlv : liveQ ((fun u => s.l.getD u OpP.none) t) := by rw [hat]; exact ⟨hon, .inr k9⟩
      by_cases hr : x.list.length = 0
      · have e : stpC false x.cap x.list y.req = (x.list, 10, 0) := by simp [stpC, k9, hr]
        rw [e]
        have g := h.aq.effN (t := t) ht hlv (by rw [hy]; exact ha) (fun _ => hr) ⟨y.on, true, y.seq, y.req⟩ (by rw [hy]) ⟨y.seq, 0, 10, 0⟩ rfl
        exact ⟨z, rfl, rfl, rfl, rfl, g⟩
      · have e : stpC false x.cap x.list y.req = (x.list.drop 1, 0, x.list.getD 0 0) := by simp [stpC, k9, hr]
        rw [e]
        have g := h.aq.effT (t := t) ht hlv (by rw [hy]; exact k9) (by rw [hy]; exact ha) (by omega) ⟨y.on, true, y.seq, y.req⟩ (by rw [hy]) ⟨y.seq, 0, 0, x.list.getD 0 0⟩ ⟨rfl, rfl⟩
        exact ⟨z.drawT t, rfl, rfl, rfl, rfl, g⟩
    · have e : (stpC false x.cap x.list y.req).1 = x.list := by
        unfold stpC
        rw [if_neg k8, if_neg k9]
        split
        · rfl
        · split <;> rfl
      rw [e]
      have g := h.aq.off (t := t) ⟨y.on, true, y.seq, y.req⟩ (fun g => g.2.elim k8 k9) ⟨y.seq, 0, (stpC false x.cap x.list y.req).2.1, (stpC false x.cap x.list y.req).2.2⟩
      exact ⟨z, rfl, rfl, rfl, rfl, g⟩

/-- A call ends. -/
theorem ASim.end_ (h : ASim c NS PS K s z x) {n : NtP} {m : Nte} {cs : List Cse} (hm : NS.getD s.at_ Nte.none = m) (hnm : n = m.p cs) (hok : noteOk K n = true) (hkn : knowK c.threads.toNat PS (s.at_ + 1) = some (nextK K n))
    (k3 : n.kind = 3) (y : OpP) (hy : y.on = false)
    (hr : ((s.l.getD n.thread.toNat OpP.none).applied = true ∧ n.res.code = (x.done.getD n.thread.toNat Resr.none).code ∧ n.res.value = (x.done.getD n.thread.toNat Resr.none).value) ∨ ((s.l.getD n.thread.toNat OpP.none).applied = false ∧ n.res.code ≠ 0 ∧ n.res.code ≠ 10)) :
    ∃ K' z' x', ASim c NS PS K' ⟨s.at_ + 1, s.rec_, s.l.set n.thread.toNat y⟩ z' x' := by
  have hin : inL K.length n.thread := by
    simp only [noteOk, Bool.and_eq_true, decide_eq_true_eq] at hok
    exact hok.1.1
  have ht : n.thread.toNat < s.l.length := by
    have := h.klen
    unfold inL at hin
    omega
  have htt : ((n.thread.toNat : Nat) : Int) = n.thread := by unfold inL at hin; omega
  have hny : ¬ liveQ y := by rintro ⟨g, _⟩; rw [hy] at g; cases g
  have hst : (stepK (K.getD n.thread.toNat KnP.none) n).on = false := by unfold stepK; rw [if_neg (by omega), if_pos k3]
  have mk : m.kind = 3 := by rw [hnm] at k3; exact k3
  have mt : m.thread = n.thread := by rw [hnm]; rfl
  have mc : m.qcode = n.res.code ∧ m.qvalue = n.res.value := by rw [hnm]; exact ⟨rfl, rfl⟩
  have hl := h.last n.thread.toNat ht
  rw [htt] at hl
  by_cases hlv : liveQ (s.l.getD n.thread.toNat OpP.none)
  · rw [curOf_pos hlv] at hl
    have hc := h.aq.cur n.thread.toNat ht hlv
    have hstep : runN 0 NS (s.at_ + 1) = ⟨(runN 0 NS s.at_).out.set (z.cur n.thread.toNat) (endK (z.C (z.cur n.thread.toNat)) s.at_ m), fun u => if u = n.thread then .none else (runN 0 NS s.at_).last u⟩ := by
      rw [runN, hm, stepC, if_neg (by omega), if_pos mk, mt, hl]
      have hg : (runN 0 NS s.at_).out.getD (z.cur n.thread.toNat) Kall.none = z.C (z.cur n.thread.toNat) := by
        rw [h.out]; simp [List.getD, hc.1]
      simp only [hg]
    refine h.note_ hok hkn y (by rw [hy, hst]) (fun g => by rw [hy] at g; cases g) (z.fin n.thread.toNat n.res.code n.res.value) rfl ?_ ?_ (h.aq.fin_ ht hlv y hny _ _ hr)
    · rw [hstep]
      show _ = (List.range z.m).map (upd z.C (z.cur n.thread.toNat) _)
      rw [← range_set, h.out]
      simp only [endK, mc.1, mc.2, h.n]
    · intro u hu
      rw [hstep]
      simp only [upd_at]
      by_cases e : u = n.thread.toNat
      · subst e; rw [if_pos htt, if_pos rfl, curOf_neg hny]
      · rw [if_neg (by omega), if_neg e]
        exact h.last u hu
  · rw [curOf_neg hlv] at hl
    have hstep : runN 0 NS (s.at_ + 1) = runN 0 NS s.at_ := by
      rw [runN, hm, stepC, if_neg (by omega), if_pos mk, mt, hl]
    have g := (h.aq.off (t := n.thread.toNat) y hny (x.done.getD n.thread.toNat Resr.none)).tick
    rw [show upd (fun t => x.done.getD t Resr.none) n.thread.toNat (x.done.getD n.thread.toNat Resr.none) = (fun t => x.done.getD t Resr.none) from upd_self _ _] at g
    refine h.note_ hok hkn y (by rw [hy, hst]) (fun g => by rw [hy] at g; cases g) z.tick rfl ?_ ?_ g
    · rw [hstep]; exact h.out
    · intro u hu
      rw [hstep, h.last u hu, upd_at]
      by_cases e : u = n.thread.toNat
      · subst e; rw [if_pos rfl, curOf_neg hny, curOf_neg hlv]
      · rw [if_neg e]; rfl

theorem ASim.way (hc : chkB c = true) (hk : c.kind = 1) (hL : Like NS PS) (hok : ∀ k, k ≤ PS.length → ∃ K, knowK c.threads.toNat PS k = some K) (h : ASim c NS PS K s z x) (hlt : s.at_ < PS.length) (hw : s' ∈ waysS c PS s) :
    ∃ K' z' x', ASim c NS PS K' s' z' x' := by
  obtain ⟨hno, hkn⟩ := know_step h.kn (hok (s.at_ + 1) (by omega))
  have hk3 : ¬ c.kind = 3 := by omega
  obtain ⟨cs, hcs⟩ := hL.2 s.at_ (by rw [← hL.1]; exact hlt)
  unfold waysS at hw
  simp only at hw
  generalize hn : PS.getD s.at_ NtP.none = n at *
  generalize hm : NS.getD s.at_ Nte.none = m at *
  have hno' := hno
  simp only [noteOk, Bool.and_eq_true, decide_eq_true_eq] at hno'
  have hin := hno'.1.1
  have ht : n.thread.toNat < s.l.length := by
    have := h.klen
    unfold inL at hin
    omega
  have htt : ((n.thread.toNat : Nat) : Int) = n.thread := by unfold inL at hin; omega
  have hon := h.on _ ht
  by_cases k1 : n.kind = 1
  · rw [if_pos k1] at hw
    simp only [List.mem_singleton] at hw
    subst hw
    have hfl := hno'.2
    unfold followsB at hfl
    rw [if_pos k1] at hfl
    simp only [Bool.and_eq_true] at hfl
    have hst : (stepK (K.getD n.thread.toNat KnP.none) n).on = true := by unfold stepK; rw [if_pos k1]
    have mk : m.kind = 1 := by rw [hcs] at k1; exact k1
    have mt : m.thread = n.thread := by rw [hcs]; rfl
    have mr : m.rkind = n.req.kind ∧ m.rvalue = n.req.value := by rw [hcs]; exact ⟨rfl, rfl⟩
    by_cases hq : n.req.kind = 8 ∨ n.req.kind = 9
    · have hlv : liveQ ⟨true, false, n.seq, n.req⟩ := ⟨rfl, hq⟩
      have hstep : runN 0 NS (s.at_ + 1) = ⟨(runN 0 NS s.at_).out ++ [begK 0 s.at_ m], fun t => if t = n.thread then some (runN 0 NS s.at_).out.length else (runN 0 NS s.at_).last t⟩ := by
        rw [runN, hm, stepC, if_pos mk, if_pos (by rw [mr.1]; exact hq), mt]
      have hlen : (runN 0 NS s.at_).out.length = z.m := by rw [h.out]; simp
      refine h.note_ hno hkn ⟨true, false, n.seq, n.req⟩ (by rw [hst]) (fun _ => ⟨hno'.1.2, hfl.2⟩) (z.beg n.thread.toNat (decide (n.req.kind = 8)) n.req.value) rfl ?_ ?_ (h.aq.beg_ ⟨true, false, n.seq, n.req⟩ rfl n.req.value (fun _ => rfl))
      · rw [hstep]
        show _ ++ _ = (List.range (z.m + 1)).map (upd z.C z.m _)
        rw [← range_more, h.out]
        simp only [begK, mr.1, mr.2, h.n]
        rfl
      · intro u hu
        rw [hstep]
        simp only [upd_at, TS.beg]
        by_cases e : u = n.thread.toNat
        · subst e; rw [if_pos htt, if_pos rfl, if_pos rfl, curOf_pos hlv, hlen]
        · rw [if_neg (by omega), if_neg e, if_neg e]
          exact h.last u hu
    · have hny : ¬ liveQ ⟨true, false, n.seq, n.req⟩ := fun g => hq g.2
      have hstep : runN 0 NS (s.at_ + 1) = ⟨(runN 0 NS s.at_).out, fun t => if t = n.thread then .none else (runN 0 NS s.at_).last t⟩ := by
        rw [runN, hm, stepC, if_pos mk, if_neg (by rw [mr.1]; exact hq), mt]
      have g := (h.aq.off (t := n.thread.toNat) ⟨true, false, n.seq, n.req⟩ hny (x.done.getD n.thread.toNat Resr.none)).tick
      rw [show upd (fun t => x.done.getD t Resr.none) n.thread.toNat (x.done.getD n.thread.toNat Resr.none) = (fun t => x.done.getD t Resr.none) from upd_self _ _] at g
      refine h.note_ hno hkn ⟨true, false, n.seq, n.req⟩ (by rw [hst]) (fun _ => ⟨hno'.1.2, hfl.2⟩) z.tick rfl ?_ ?_ g
      · rw [hstep]; exact h.out
      · intro u hu
        rw [hstep]
        simp only [upd_at]
        by_cases e : u = n.thread.toNat
        · subst e; rw [if_pos htt, if_pos rfl, curOf_neg hny]
        · rw [if_neg (by omega), if_neg e]
          exact h.last u hu
  · rw [if_neg k1] at hw
    have hfl := hno'.2
    unfold followsB at hfl
    rw [if_neg k1] at hfl
    split at hfl
    case isFalse => cases hfl
    rename_i k23
    simp only [Bool.and_eq_true] at hfl
    have hrr : rrI (doneO c s.rec_ n.thread) = x.done.getD n.thread.toNat Resr.none := by
      have := done_at (t := n.thread.toNat) hc hk3 h.fit (by have := h.len; omega)
      rw [htt] at this
      rw [h.rec_]; exact this
    split at hw
    · rename_i hap
      simp only [List.mem_singleton] at hw
      subst hw
      have htl := hap.2
      unfold tellsB at htl
      rw [hrr] at htl
      simp only [Bool.and_eq_true, Bool.or_eq_true, decide_eq_true_eq] at htl
      by_cases k2 : n.kind = 2
      · have hoy : (s.l.getD n.thread.toNat OpP.none).on = true := by rw [← hon]; exact hfl.1
        have hst : (stepK (K.getD n.thread.toNat KnP.none) n).on = true := by unfold stepK; rw [if_neg k1, if_neg (by omega)]; exact hfl.1
        have mk : m.kind = 2 := by rw [hcs] at k2; exact k2
        have hstep : runN 0 NS (s.at_ + 1) = runN 0 NS s.at_ := by
          rw [runN, hm, stepC, if_neg (by omega), if_neg (by omega)]
        have hsame : (⟨decide (n.kind = 2), true, (s.l.getD n.thread.toNat OpP.none).seq, (s.l.getD n.thread.toNat OpP.none).req⟩ : OpP) = s.l.getD n.thread.toNat OpP.none := by
          rw [k2]
          have h1 := hap.1
          generalize s.l.getD n.thread.toNat OpP.none = y at *
          obtain ⟨a, b, d, e⟩ := y
          simp only at hoy h1
          rw [hoy, h1]; rfl
        rw [hsame]
        have hself : upd (fun t => s.l.getD t OpP.none) n.thread.toNat (s.l.getD n.thread.toNat OpP.none) = (fun t => s.l.getD t OpP.none) := upd_self _ _
        refine h.note_ hno hkn (s.l.getD n.thread.toNat OpP.none) (by rw [hst, hoy]) (h.ok _ ht) z.tick rfl ?_ ?_ (by rw [hself]; exact h.aq.tick)
        · rw [hstep]; exact h.out
        · intro u hu
          rw [hstep, hself]
          exact h.last u hu
      · have k3 : n.kind = 3 := by omega
        have hs := htl.2.resolve_left k2
        simp only [sameR, Bool.and_eq_true, decide_eq_true_eq] at hs
        exact h.end_ hm hcs hno hkn k3 _ (by simp [k2]) (.inl ⟨hap.1, hs.1.2.symm, hs.2.symm⟩)
    · rcases List.mem_append.1 hw with hw | hw
      · split at hw
        · rename_i hnn
          simp only [List.mem_singleton] at hw
          subst hw
          have hb := hnn.1
          simp only [noneB, Bool.and_eq_true, Bool.or_eq_true, decide_eq_true_eq] at hb
          exact h.end_ hm hcs hno hkn hb.1 _ rfl (.inr ⟨hnn.2, by omega, by omega⟩)
        · cases hw
      · obtain ⟨t, g1, g2, g3, g4, rfl⟩ := effK_mem _ hw
        exact h.eff_ hc hk g1 g2 g3

theorem ASim.wrong (hc : chkB c = true) (hk : c.kind = 1) (hL : Like NS PS) (hok : ∀ k, k ≤ PS.length → ∃ K, knowK c.threads.toNat PS k = some K) (he : Expl c PS s) :
    ∀ K z x, ASim c NS PS K s z x → wrongS (callsS NS) = false := by
  induction he with
  | done s hd =>
    intro K z x h
    have e : callsS NS = callsT z := by
      have h1 := h.out
      have h2 := h.n
      unfold callsS
      rw [runC_runN, (runN_fix NS.length NS NS.length).1]
      rw [hd, hL.1] at h1
      rw [h1]
      unfold callsT
      rw [h2, hd, hL.1, List.map_map]
      rfl
    rw [e]
    exact finv_right h.aq.inv
  | way s s' hlt hw _ ih =>
    intro K z x h
    obtain ⟨K', z', x', h'⟩ := h.way hc hk hL hok hlt hw
    exact ih K' z' x' h'
end

/-- Of a queue, what some order explains tells nothing wrong. -/
theorem legal_right {c : Cfg} {NS : List Nte} {PS : List NtP} (hk : c.kind = 1) (hL : Like NS PS) (hck : checkS c PS = 0) (h : legalB c PS) : wrongS (callsS NS) = false := by
  obtain ⟨hc, ⟨l, hl⟩, _⟩ := checkS_ok hck
  have hb := chk_cap hc
  have hk3 : ¬ c.kind = 3 := by omega
  have hf := startC_fit hc
  have hn : ∀ t : Nat, (List.replicate c.threads.toNat OpP.none).getD t OpP.none = OpP.none := fun t => by
    simp only [List.getD, List.getElem?_replicate]
    split <;> rfl
  have hkn : ∀ t : Nat, (List.replicate c.threads.toNat KnP.none).getD t KnP.none = KnP.none := fun t => by
    simp only [List.getD, List.getElem?_replicate]
    split <;> rfl
  have hln : ¬ liveQ OpP.none := by simp [liveQ, OpP.none]
  refine ASim.wrong hc hk hL (fun k hk => knowK_some (PS.length - k) k l (by rw [show k + (PS.length - k) = PS.length by omega]; exact hl)) h (List.replicate c.threads.toNat KnP.none) ⟨0, 0, 0, 0, fun _ => 0, fun _ => 0, fun _ => 0, fun _ => 0, fun _ => Kall.none, fun _ => 0, fun _ => 0, fun _ => 0, fun _ => 0⟩ ⟨c.cap, [], List.replicate (clampI c.threads 64) Resr.none⟩ ⟨rfl, rfl, ?_, hf, ?_, ?_, ?_, ?_, rfl, ?_, ?_⟩
  · show startO c = _
    unfold startO
    rw [if_pos hc, if_neg hk3, putC, if_pos ((fitsC_iff hc hk3).2 hf)]
  · simp only [List.length_replicate]; omega
  · simp
  · intro t _
    simp only [hn, hkn]
    rfl
  · intro t _ g
    simp only [hn] at g
    cases g
  · intro t _
    simp only [hn]
    rw [curOf_neg hln]
    rfl
  · simp only [List.length_replicate]
    have e : (fun t => (List.replicate c.threads.toNat OpP.none).getD t OpP.none) = fun _ => OpP.none := funext hn
    rw [e]
    exact AQ.init _ _

end Go.Proofs.YtieglgahfeecbaaGreatDoor

namespace Go.Proofs.YtieglgahfeecbaaGreatDoor
open Go.RowKit Go.Sort
attribute [local go_sem ↓] Go.wp_at_zero Go.wp_at_succ

/-- A thread's call, as a record. -/
structure Opr where
  (q : Reqr)
  (seq : Int)
  (on applied : Bool)
def Reqr.none : Reqr := ⟨0, 0, 0, false, .none, 0, 0⟩
def Opr.none : Opr := ⟨Reqr.none, 0, false, false⟩
def Opr.cells (a : Opr) : List Value := [.int .i64 a.q.kind, .int .i64 a.q.arg, .int .i64 a.q.value, .bool a.q.dflt, .slice a.q.A a.q.n a.q.c, .int .i64 a.seq, .bool a.on, .bool a.applied]
abbrev oprV (a : Opr) : Value := .agg #[.int .i64 a.q.kind, .int .i64 a.q.arg, .int .i64 a.q.value, .bool a.q.dflt, .slice a.q.A a.q.n a.q.c, .int .i64 a.seq, .bool a.on, .bool a.applied]
instance : Cellful Opr where
  cells := Opr.cells
  s := 8
  dflt := Opr.none
  len := fun _ => rfl
  one := fun a u hu => by
    simp only [Opr.cells, List.mem_cons, List.not_mem_nil, or_false] at hu
    rcases hu with rfl | rfl | rfl | rfl | rfl | rfl | rfl | rfl <;> rfl
theorem opr_cells {w : World} {b o : Nat} {l : List Opr} (hc : ∀ k v, (rows l)[k]? = some v → w.cell? ⟨b, o + k, none⟩ = some v) {k : Nat} (hk : k < l.length) {x : Opr} (hx : l.getD k Opr.none = x) :
    w.cell? ⟨b, o + k * 8, none⟩ = some (.int .i64 x.q.kind) ∧ w.cell? ⟨b, o + k * 8 + 1, none⟩ = some (.int .i64 x.q.arg) ∧ w.cell? ⟨b, o + k * 8 + 2, none⟩ = some (.int .i64 x.q.value) ∧ w.cell? ⟨b, o + k * 8 + 3, none⟩ = some (.bool x.q.dflt) ∧
    w.cell? ⟨b, o + k * 8 + 4, none⟩ = some (.slice x.q.A x.q.n x.q.c) ∧ w.cell? ⟨b, o + k * 8 + 5, none⟩ = some (.int .i64 x.seq) ∧ w.cell? ⟨b, o + k * 8 + 6, none⟩ = some (.bool x.on) ∧ w.cell? ⟨b, o + k * 8 + 7, none⟩ = some (.bool x.applied) := by
  have h := rec_cell hc hk hx
  exact ⟨h 0 _ rfl, h 1 _ rfl, h 2 _ rfl, h 3 _ rfl, h 4 _ rfl, h 5 _ rfl, h 6 _ rfl, h 7 _ rfl⟩

abbrev nteV (a : Nte) : Value := .agg #[.int .i64 a.kind, .int .i64 a.thread, .int .i64 a.seq, .int .i64 a.time, .int .i64 a.rkind, .int .i64 a.rarg, .int .i64 a.rvalue, .bool a.rdef, .slice a.ca a.cl a.cc, .int .i64 a.qseq, .int .i64 a.qcase, .int .i64 a.qcode, .int .i64 a.qvalue]
def Nte.q (a : Nte) : Reqr := ⟨a.rkind, a.rarg, a.rvalue, a.rdef, a.ca, a.cl, a.cc⟩

/-- May a note stand behind what is known of its thread? -/
def folB (x : Opr) (n : Nte) (fit : Bool) : Bool :=
  if n.kind = 1 then !x.on && (decide (n.seq = 0) || decide (x.seq < n.seq)) && fit
  else if n.kind = 2 ∨ n.kind = 3 then x.on && decide (n.seq = if x.applied = true then 0 else x.seq) else false

set_option maxHeartbeats 8000000 in
set_option maxRecDepth 100000 in
theorem hFollows_any (x : Opr) (n : Nte) (l : List Cse) (w : World) (h : ReqAt w n.q l) :
    Calls Tryz.prog 21 #[oprV x, nteV n] w fun e w' => e = .returned (.bool (folB x n (fitsQ (n.q.p l)))) ∧ Below w.heap.size w w' := by
  have HV : RowKit.Hid (folB x n (fitsQ (n.q.p l)) = if n.kind = 1 then !x.on && (decide (n.seq = 0) || decide (x.seq < n.seq)) && fitsQ (n.q.p l)
    else if n.kind = 2 ∨ n.kind = 3 then x.on && decide (n.seq = if x.applied = true then 0 else x.seq) else false) := Lib.hid rfl
  have HB := Lib.hid (below_two w (.cells #[.int .i64 x.q.kind, .int .i64 x.q.arg, .int .i64 x.q.value, .bool x.q.dflt, .slice x.q.A x.q.n x.q.c, .int .i64 x.seq, .bool x.on, .bool x.applied] 63) (.cells #[.int .i64 n.kind, .int .i64 n.thread, .int .i64 n.seq, .int .i64 n.time, .int .i64 n.rkind, .int .i64 n.rarg, .int .i64 n.rvalue, .bool n.rdef, .slice n.ca n.cl n.cc, .int .i64 n.qseq, .int .i64 n.qcase, .int .i64 n.qcode, .int .i64 n.qvalue] 44))
  have HF := Lib.hid (fun W (hb : Below w.heap.size w W) => pFits_any n.q l W (h.below hb))
  clear h
  generalize fitsQ ((Nte.q n).p l) = F at *
  unfold reqV Nte.q at HF
  simp only at HF
  generalize folB x n F = R at *
  obtain ⟨⟨xk, xa, xv, xd, xA, xn, xc⟩, xs, xo, xp⟩ := x
  simp only at HV HB
  unfold oprV nteV
  simp only
  by_cases k1 : n.kind = 1
  · rw [if_pos k1] at HV
    have e1 : (n.kind == 1) = true := by simp [k1]
    clear k1
    cases xo
    · by_cases k4 : n.seq = 0 <;> by_cases k5 : xs < n.seq <;> cases xp
      all_goals
        have e4 : (n.seq == 0) = decide (n.seq = 0) := rfl
        first | rw [decide_eq_true k4] at e4 | rw [decide_eq_false k4] at e4
        first | rw [decide_eq_true k4] at HV | rw [decide_eq_false k4] at HV
        first | rw [decide_eq_true k5] at HV | rw [decide_eq_false k5] at HV
        clear k4
        go_enter Tryz.func21, Tryz.ntmps21
        go_wp2_with (refine (HF.out _ HB.out).mono ?_; rintro er w1 ⟨rfl, hb1⟩; have HB1 := Lib.hid (HB.out.trans (hb1.mono HB.out.size)); clear hb1)
        all_goals
          go_ret
          refine ⟨ret_bool ?_, by first | exact HB1.out | exact HB.out⟩
          rw [HV.out]
          rfl
    · cases xp
      all_goals
        go_enter Tryz.func21, Tryz.ntmps21
        go_wp2_with fail
        go_ret
        exact ⟨ret_bool (by rw [HV.out]; rfl), HB.out⟩
  · rw [if_neg k1] at HV
    have e1 : (n.kind == 1) = false := by simp [k1]
    by_cases k23 : n.kind = 2 ∨ n.kind = 3
    · rw [if_pos k23] at HV
      rcases k23 with k2 | k3
      · have e2 : (n.kind == 2) = true := by simp [k2]
        clear k1 k2
        cases xo <;> cases xp
        all_goals
          go_enter Tryz.func21, Tryz.ntmps21
          go_wp2_with fail
          all_goals
            go_ret
            refine ⟨ret_bool ?_, HB.out⟩
            rw [HV.out]
            first | rfl | (simp [*]; done) | (simp; omega) | grind
      · have e2 : (n.kind == 2) = false := by simp [k3]
        have e3 : (n.kind == 3) = true := by simp [k3]
        clear k1 k3
        cases xo <;> cases xp
        all_goals
          go_enter Tryz.func21, Tryz.ntmps21
          go_wp2_with fail
          all_goals
            go_ret
            refine ⟨ret_bool ?_, HB.out⟩
            rw [HV.out]
            first | rfl | (simp [*]; done) | (simp; omega) | grind
    · rw [if_neg k23] at HV
      have e2 : (n.kind == 2) = false := by simp; omega
      have e3 : (n.kind == 3) = false := by simp; omega
      clear k1 k23
      cases xp
      all_goals
        go_enter Tryz.func21, Tryz.ntmps21
        go_wp2_with fail
        go_ret
        exact ⟨ret_bool (by rw [HV.out]), HB.out⟩

theorem noneB_p (n : Nte) (l : List Cse) : noneB (n.p l) = (decide (n.kind = 3) && (decide (n.qcode = 6) || decide (n.qcode = 7))) := rfl
set_option maxHeartbeats 8000000 in
set_option maxRecDepth 100000 in
theorem hNone_any (n : Nte) (w : World) : Calls Tryz.prog 71 #[nteV n] w fun e w' => e = .returned (.bool (decide (n.kind = 3) && (decide (n.qcode = 6) || decide (n.qcode = 7)))) ∧ Below w.heap.size w w' := by
  have HB := Lib.hid ((Below.refl w.heap.size w).alloc (Nat.le_refl _) (.cells #[.int .i64 n.kind, .int .i64 n.thread, .int .i64 n.seq, .int .i64 n.time, .int .i64 n.rkind, .int .i64 n.rarg, .int .i64 n.rvalue, .bool n.rdef, .slice n.ca n.cl n.cc, .int .i64 n.qseq, .int .i64 n.qcase, .int .i64 n.qcode, .int .i64 n.qvalue] 44))
  unfold nteV
  generalize hR : (decide (n.kind = 3) && (decide (n.qcode = 6) || decide (n.qcode = 7))) = R
  have HR := Lib.hid hR
  clear hR
  cases e1 : (n.kind == 3) <;> cases e2 : (n.qcode == 6) <;> cases e3 : (n.qcode == 7)
  all_goals
    have HG : RowKit.Hid ((n.kind == 3) = decide (n.kind = 3) ∧ (n.qcode == 6) = decide (n.qcode = 6) ∧ (n.qcode == 7) = decide (n.qcode = 7)) := Lib.hid ⟨rfl, rfl, rfl⟩
    rw [e1, e2, e3] at HG
    go_enter Tryz.func71, Tryz.ntmps71
    go_wp2_with fail
    go_ret
    refine ⟨ret_bool ?_, HB.out⟩
    have g := HG.out
    rw [← HR.out, ← g.1, ← g.2.1, ← g.2.2]
    try rfl

end Go.Proofs.YtieglgahfeecbaaGreatDoor

namespace Go.Proofs.YtieglgahfeecbaaGreatDoor
open Go.RowKit Go.Sort

/-- What the program keeps of a thread is what is known of it. -/
structure KnIs (x : Opr) (k : KnP) : Prop where
  on : x.on = k.on
  last : x.seq = k.last
  seq : k.seq = if x.applied = true then 0 else x.seq
theorem knIs_none : KnIs Opr.none KnP.none := ⟨rfl, rfl, rfl⟩
theorem KnIs.follows {x : Opr} {k : KnP} (h : KnIs x k) (n : Nte) (cs : List Cse) : folB x n (fitsQ (n.q.p cs)) = followsB k (n.p cs) := by
  unfold folB followsB
  rw [h.on, h.seq, ← h.last]
  rfl
/-- What is kept behind a note. -/
def stepO (x : Opr) (n : Nte) : Opr :=
  if n.kind = 1 then ⟨n.q, max n.seq x.seq, true, decide (n.seq = 0)⟩ else if n.kind = 3 then ⟨x.q, x.seq, false, x.applied⟩ else x
theorem KnIs.step {x : Opr} {k : KnP} (h : KnIs x k) {n : Nte} {cs : List Cse} (hf : followsB k (n.p cs) = true) (h0 : 0 ≤ k.last) (hn : 0 ≤ n.seq) : KnIs (stepO x n) (stepK k (n.p cs)) ∧ 0 ≤ (stepK k (n.p cs)).last := by
  have e1 : (n.p cs).kind = n.kind := rfl
  have e2 : (n.p cs).seq = n.seq := rfl
  unfold stepO stepK
  unfold followsB at hf
  rw [e1, e2] at hf
  rw [e1, e2]
  by_cases k1 : n.kind = 1
  · simp only [if_pos k1] at hf ⊢
    simp only [Bool.and_eq_true, Bool.or_eq_true, decide_eq_true_eq] at hf
    refine ⟨⟨rfl, ?_, ?_⟩, ?_⟩
    · show max n.seq x.seq = max k.last n.seq
      rw [h.last, Int.max_comm]
    · show n.seq = if decide (n.seq = 0) = true then 0 else max n.seq x.seq
      rw [h.last]
      by_cases e : n.seq = 0
      · simp [e]
      · have := hf.1.2.resolve_left e
        simp only [e, decide_false]
        simp
        omega
    · show 0 ≤ max k.last n.seq
      omega
  · simp only [if_neg k1]
    by_cases k3 : n.kind = 3
    · simp only [if_pos k3]
      exact ⟨⟨rfl, h.last, h.seq⟩, h0⟩
    · simp only [if_neg k3]
      exact ⟨h, h0⟩

/-- The rows of what is kept. -/
structure KnL (L : List Opr) (K : List KnP) : Prop where
  len : L.length = K.length
  is_ : ∀ t, t < L.length → KnIs (L.getD t Opr.none) (K.getD t KnP.none) ∧ 0 ≤ (K.getD t KnP.none).last
theorem knL_start (n : Nat) : KnL (List.replicate n Opr.none) (List.replicate n KnP.none) := by
  refine ⟨by simp, fun t ht => ?_⟩
  have e1 : (List.replicate n Opr.none).getD t Opr.none = Opr.none := by
    simp only [List.getD_eq_getElem?_getD, List.getElem?_replicate]; split <;> rfl
  have e2 : (List.replicate n KnP.none).getD t KnP.none = KnP.none := by
    simp only [List.getD_eq_getElem?_getD, List.getElem?_replicate]; split <;> rfl
  rw [e1, e2]
  exact ⟨knIs_none, Int.le_refl _⟩
theorem KnL.next {L : List Opr} {K : List KnP} (h : KnL L K) {n : Nte} {cs : List Cse} (hok : noteOk K (n.p cs) = true) : KnL (L.set n.thread.toNat (stepO (L.getD n.thread.toNat Opr.none) n)) (nextK K (n.p cs)) := by
  have hl := h.len
  have hin : inL K.length n.thread ∧ inB n.seq 0 1048575 = true ∧ followsB (K.getD n.thread.toNat KnP.none) (n.p cs) = true := by
    simp only [noteOk, Bool.and_eq_true, decide_eq_true_eq] at hok
    exact ⟨hok.1.1, hok.1.2, hok.2⟩
  have ht : n.thread.toNat < L.length := by
    have := hin.1
    unfold inL at this
    omega
  have hs : 0 ≤ n.seq := by
    have := hin.2.1
    unfold inB at this
    simp only [Bool.and_eq_true, decide_eq_true_eq] at this
    omega
  refine ⟨by simp [nextK, hl], fun u hu => ?_⟩
  simp only [List.length_set] at hu
  rw [nextK_at hin.1, set_at L Opr.none ht]
  by_cases e : u = n.thread.toNat
  · rw [if_pos e]
    have e2 : u = (n.p cs).thread.toNat := e
    rw [if_pos e2]
    exact (h.is_ _ ht).1.step hin.2.2 (h.is_ _ ht).2 hs
  · rw [if_neg e]
    have e2 : ¬ u = (n.p cs).thread.toNat := e
    rw [if_neg e2]
    exact h.is_ u hu

theorem knowK_none {threads : Nat} {ns : List NtP} : ∀ d k, knowK threads ns k = none → knowK threads ns (k + d) = none
  | 0, _, h => h
  | d + 1, k, h => by
    have e : k + (d + 1) = (k + d) + 1 := by omega
    rw [e, knowK, knowK_none d k h]
theorem checkS_bad {c : Cfg} {ns : List NtP} {k : Nat} {K : List KnP} (hc : chkB c = true) (hk : k < ns.length) (h : knowK c.threads.toNat ns k = some K) (hn : noteOk K (ns.getD k NtP.none) = false) : checkS c ns = 3 := by
  have h1 : knowK c.threads.toNat ns (k + 1) = none := by
    rw [knowK, h]
    simp only [hn]
    simp
  have h2 := knowK_none (ns.length - (k + 1)) _ h1
  rw [show k + 1 + (ns.length - (k + 1)) = ns.length by omega] at h2
  unfold checkS
  rw [h2, if_neg (by simp [hc])]
theorem checkS_end {c : Cfg} {ns : List NtP} {K : List KnP} (hc : chkB c = true) (h : knowK c.threads.toNat ns ns.length = some K) : checkS c ns = if 8 < callsK ns ns.length then 4 else 0 := by
  unfold checkS
  rw [h, if_neg (by simp [hc])]
theorem knowK_next {threads : Nat} {ns : List NtP} {k : Nat} {K : List KnP} (h : knowK threads ns k = some K) (hn : noteOk K (ns.getD k NtP.none) = true) : knowK threads ns (k + 1) = some (nextK K (ns.getD k NtP.none)) := by
  rw [knowK, h]
  simp only [hn, if_true]
theorem callsK_le {ns : List NtP} : ∀ k, callsK ns k ≤ k
  | 0 => Nat.le_refl _
  | k + 1 => by
    have := callsK_le (ns := ns) k
    rw [callsK]
    split <;> omega

end Go.Proofs.YtieglgahfeecbaaGreatDoor

namespace Go.Proofs.YtieglgahfeecbaaGreatDoor
open Go.RowKit Go.Sort
attribute [local go_sem ↓] Go.wp_at_zero Go.wp_at_succ

theorem rs_none (n : Nat) : rows (List.replicate n Resr.none) = List.replicate (n * 4) (.int .i64 0) := by
  induction n with
  | zero => rfl
  | succ n ih => rw [List.replicate_succ, rows_cons, ih, Nat.succ_mul, Nat.add_comm, ← List.replicate_append_replicate]; rfl
theorem rs_cells (n : Nat) : madeCells (rsV Resr.none).cells (n * 4) = (rows (List.replicate n Resr.none)).toArray := by
  rw [rs_none]
  apply Array.ext
  · simp [madeCells]
  · intro j h1 h2
    have h5 : j % 4 = 0 ∨ j % 4 = 1 ∨ j % 4 = 2 ∨ j % 4 = 3 := by omega
    rcases h5 with h | h | h | h <;> simp [madeCells, Value.cells, Resr.none, h]

theorem make_rs (n : Nat) (hn : n ≤ 1048576) (w : World) :
    (Instr.makeSlice 85 (.int .i64 (n : Int)) (.int .i64 (n : Int))).run Tryz.prog w = .ok (.slice (some ⟨w.heap.size, 0, none⟩) n n) (w.alloc (.cells (rows (List.replicate n Resr.none)).toArray 42)) := by
  obtain ⟨i, hi, hz, hs, hb⟩ := info_parts CloneRs_info
  have hr := run_make (P := Tryz.prog) w 85 42 i (rsV Resr.none) Tryz.underlying85 hi hz .i64 .i64 n n (by omega) (by omega) (by rw [hb]; omega) (by omega)
  simp only [Int.toNat_natCast] at hr
  rw [hr, hs, rs_cells]

set_option maxHeartbeats 4000000 in
set_option maxRecDepth 100000 in
theorem fNew_any (cap : Int) (n : Nat) (w : World) (h1 : 1 ≤ n) (h64 : n ≤ 64) :
    Calls Tryz.prog 40 #[.int .i64 cap, .int .i64 n] w (RetClr ⟨cap, [], List.replicate n Resr.none⟩ w) := by
  have hmk := fun W => make_rs n (by omega) W
  have m1 : (n : Int) ≤ 64 := by omega
  have m2 : (0 : Int) ≤ (n : Int) := by omega
  have HLN : RowKit.Hid ((List.replicate n Resr.none).length = n) := Lib.hid (by simp)
  generalize List.replicate n Resr.none = L at *
  have HR := Lib.hid (rows_length L)
  clear h1 h64
  go_enter Tryz.func40, Tryz.ntmps40
  go_wp2
  have el : L.length = n := HLN.out
  have hbk := (Blk.new w 91 [.int .i64 cap, .slice none 0 0, .slice (some ⟨w.heap.size + 1, 0, none⟩) n n]).alloc (.cells (rows L).toArray 42)
  refine bodyPost_ret (v := clrV ⟨cap, .none, 0, [], some ⟨w.heap.size + 1, 0, none⟩, n, L⟩) (ret_cell (g := w.heap.size) rfl rfl (clr_load (x := ⟨cap, .none, 0, [], some ⟨w.heap.size + 1, 0, none⟩, n, L⟩) hbk (by simp only [Clr.cells, el]; rfl))) rfl ?_
  refine ⟨⟨cap, .none, 0, [], some ⟨w.heap.size + 1, 0, none⟩, n, L⟩, rfl, rfl, ⟨own_nil _ _ _ _, ?_⟩, below_two _ _ _⟩
  simp only [el]
  exact own_blk1 (blk_new (by simp)) (by omega) (by rw [HR.out, el]; rfl) (by unfold maxLen; omega)

/-- The words of what threads share, at first, and behind calls. -/
structure ObjOk (c : Cfg) : Prop where
  start : ∀ w, CfgIn w c → Calls Tryz.prog 17 #[cfgV c] w (RetWords (startO c) w)
  apply : ∀ (A : Option Addr) (c0 : Nat) (L : List Int) (t seq : Int) (q : Reqr) (l : List Cse) (w : World), CfgIn w c → Rd w A (words L) → L.length ≤ c0 → L.length ≤ 1048576 → (∀ x ∈ L, 0 ≤ x ∧ x < 18446744073709551616) → ReqAt w q l → l.length ≤ 1048576 →
    Calls Tryz.prog 72 #[cfgV c, .slice A L.length c0, .int .i64 t, .int .i64 seq, reqV q] w (RetWords (applyO c L t seq (q.p l)) w)
  done : ∀ (A : Option Addr) (c0 : Nat) (L : List Int) (t : Int) (w : World), CfgIn w c → Rd w A (words L) → L.length ≤ 1048576 → 0 ≤ t → t ≤ 4096 →
    Calls Tryz.prog 103 #[cfgV c, .slice A L.length c0, .int .i64 t] w fun e w' => e = .returned (.int .u64 (doneO c L t)) ∧ Below w.heap.size w w'
  big : ∀ (L : List Int) (t seq : Int) (q : ReqP), (∀ x ∈ L, 0 ≤ x ∧ x < 18446744073709551616) → ∀ x ∈ applyO c L t seq q, 0 ≤ x ∧ x < 18446744073709551616
  big0 : ∀ x ∈ startO c, 0 ≤ x ∧ x < 18446744073709551616

theorem resI_big (r : Resr) : 0 ≤ resI r ∧ resI r < 18446744073709551616 := by
  unfold resI
  split
  · rename_i h
    simp only [goodR, inB, Bool.and_eq_true, decide_eq_true_eq] at h
    omega
  · omega
theorem cellsI_big {c : Cfg} {x : CellsP} (hc : chkB c = true) (hf : FitC c x) : ∀ v ∈ cellsI c.cap x, 0 ≤ v ∧ v < 18446744073709551616 := by
  intro v hv
  have hb := chk_cap hc
  have h1 := hf.few
  unfold cellsI at hv
  rw [List.mem_append, List.mem_append, List.mem_singleton] at hv
  rcases hv with (rfl | hv) | hv
  · omega
  · unfold rowI at hv
    rw [List.mem_map] at hv
    obtain ⟨i, _, rfl⟩ := hv
    split
    · rename_i hi
      have := hf.vals _ (getD_mem (d := 0) hi)
      simp only [inB, Bool.and_eq_true, decide_eq_true_eq] at this
      omega
    · omega
  · rw [List.mem_map] at hv
    obtain ⟨r, _, rfl⟩ := hv
    exact resI_big r
theorem applyO_big {c : Cfg} (hk : ¬ c.kind = 3) (L : List Int) (t seq : Int) (q : ReqP) (h : ∀ x ∈ L, 0 ≤ x ∧ x < 18446744073709551616) : ∀ x ∈ applyO c L t seq q, 0 ≤ x ∧ x < 18446744073709551616 := by
  unfold applyO
  split
  · exact h
  · rename_i hg
    try rw [if_neg hk]
    cases hr : readC c L with
    | none => exact h
    | some y =>
      obtain ⟨h1, h2, h3, _, _⟩ := readC_fit hr
      have hs : inB seq 0 1048575 = true := by simp only [inB, Bool.and_eq_true, decide_eq_true_eq]; omega
      have hq : fitsQ q = true := by
        cases h : fitsQ q
        · exact absurd (Or.inr (Or.inr (Or.inr (Or.inr h)))) hg
        · rfl
      have h5 := applyC_ok (t := t) (decide (c.kind = 2)) h1 h3 hs hq
      simp only [putC, (fitsC_iff h1 h2).2 h5, if_true]
      exact cellsI_big h1 h5
theorem startO_big {c : Cfg} (hk : ¬ c.kind = 3) : ∀ x ∈ startO c, 0 ≤ x ∧ x < 18446744073709551616 := by
  unfold startO
  split
  · rename_i hc
    have hf := startC_fit hc
    try rw [if_neg hk]
    rw [putC, if_pos ((fitsC_iff hc hk).2 hf)]
    exact cellsI_big hc hf
  · intro x hx; cases hx

end Go.Proofs.YtieglgahfeecbaaGreatDoor
