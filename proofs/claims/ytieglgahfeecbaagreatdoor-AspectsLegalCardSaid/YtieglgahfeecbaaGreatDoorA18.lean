/- Plain: a history that some order explains is explained up to each of its calls. -/
import Derived.Test.YtieglgahfeecbaaGreatDoorA16
namespace Go.Proofs.YtieglgahfeecbaaGreatDoor

/-- Where a thread stands. -/
structure Man where
  (pc seq value at_ try_ : Int)
def Man.none : Man := ⟨0, 0, 0, 0, 0⟩

/-- The queue: the words, the threads, the notes, the time. -/
structure TQ where
  ws : List Int
  l : List Man
  ns : List Nte
  time : Int

def TQ.man (q : TQ) (t : Nat) : Man := q.l.getD t Man.none
def TQ.word (q : TQ) (k : Nat) : Int := q.ws.getD k 0

def nteQ (kind t : Int) (x : Man) (time qseq qcode qvalue : Int) : Nte :=
  ⟨kind, t, x.seq, time, if x.pc = 1 ∨ x.pc = 2 then 8 else 9, 0, if x.pc = 1 ∨ x.pc = 2 then x.value else 0, false, .none, 0, 0, qseq, 0, qcode, qvalue⟩

def TQ.note (q : TQ) (kind : Int) (t : Nat) (qseq qcode qvalue : Int) : TQ := { q with ns := q.ns ++ [nteQ kind t (q.man t) q.time qseq qcode qvalue] }
def TQ.setM (q : TQ) (t : Nat) (x : Man) : TQ := { q with l := q.l.set t x }
def TQ.setW (q : TQ) (k : Nat) (x : Int) : TQ := { q with ws := q.ws.set k x }
def TQ.tic (q : TQ) : TQ := { q with time := q.time + 1 }

def TQ.begin (q : TQ) (t : Nat) (pc v : Int) : TQ :=
  if (q.man t).pc ≠ 0 ∨ 1048575 ≤ (q.man t).seq then q else (q.setM t ⟨pc, (q.man t).seq + 1, v, 0, 0⟩).tic.note 1 t 0 0 0
def TQ.ends (q : TQ) (t : Nat) (code v : Int) : TQ := (q.note 3 t (q.man t).seq code v).setM t ⟨0, (q.man t).seq, 0, 0, 0⟩
def TQ.ticket (sz : Nat) (q : TQ) (t word : Nat) (next : Int) : TQ :=
  if (sz : Int) ≤ q.word word then (q.setW word (q.word word + 1)).ends t 6 0
  else (q.setW word (q.word word + 1)).setM t ⟨next, (q.man t).seq, (q.man t).value, q.word word, (q.man t).try_⟩
def TQ.again (tr : Nat) (q : TQ) (t : Nat) (pc : Int) : TQ :=
  if (q.man t).try_ + 1 = tr then (q.setM t ⟨pc, (q.man t).seq, (q.man t).value, (q.man t).at_, (q.man t).try_ + 1⟩).ends t 6 0
  else q.setM t ⟨pc, (q.man t).seq, (q.man t).value, (q.man t).at_, (q.man t).try_ + 1⟩
def TQ.cellAt (q : TQ) (t : Nat) : Nat := (q.man t).at_.toNat + 2
def TQ.step (sz tr : Nat) (q : TQ) (t : Nat) : TQ :=
  if (q.man t).pc = 1 then q.ticket sz t 1 2
  else if (q.man t).pc = 2 then
    if q.word (q.cellAt t) = 0 then (q.setW (q.cellAt t) ((q.man t).value + 2)).ends t 0 0 else q.again tr t 1
  else if (q.man t).pc = 3 then q.ticket sz t 0 4
  else if (q.man t).pc = 4 then
    if q.word (q.cellAt t) = 0 then (q.setW (q.cellAt t) 1).setM t ⟨6, (q.man t).seq, (q.man t).value, (q.man t).at_, (q.man t).try_⟩
    else q.setM t ⟨5, (q.man t).seq, (q.man t).value, (q.man t).at_, (q.man t).try_⟩
  else if (q.man t).pc = 5 then q.ends t 0 (q.word (q.cellAt t) - 2)
  else if (q.man t).pc = 6 then
    if q.word 1 ≤ (q.man t).at_ + 1 then q.ends t 10 0 else q.again tr t 3
  else q

/-- What is done: a put, a take, a step. -/
def TQ.act (sz tr : Nat) (q : TQ) (kind t x : Int) : TQ :=
  if t < 0 ∨ (q.l.length : Int) ≤ t then q
  else if kind % 8 = 0 then (if x < 0 ∨ 4294967295 < x then q else q.begin t.toNat 1 x)
  else if kind % 8 = 1 then q.begin t.toNat 3 0
  else q.tic.step sz tr t.toNat

/-- The calls, gathered without an end of those that are open. -/
def runN (N : Nat) (ns : List Nte) : Nat → CSt
  | 0 => ⟨[], fun _ => .none⟩
  | k + 1 => stepC N (runN N ns k) k (ns.getD k Nte.none)
theorem runC_runN (ns : List Nte) : ∀ k, runC ns k = runN ns.length ns k
  | 0 => rfl
  | k + 1 => by rw [runC, runN, runC_runN ns k]

theorem runN_len (N : Nat) (ns : List Nte) : ∀ k t j, (runN N ns k).last t = some j → j < (runN N ns k).out.length
  | 0, t, j => by simp [runN]
  | k + 1, t, j => by
    have ih := runN_len N ns k
    rw [runN]
    generalize runN N ns k = s at *
    generalize ns.getD k Nte.none = n
    unfold stepC
    split
    · split
      · simp only [List.length_append, List.length_cons, List.length_nil]
        intro h
        split at h
        · injection h with h; omega
        · have := ih t j h; omega
      · intro h
        simp only at h
        split at h
        · cases h
        · exact ih t j h
    · split
      · split
        · exact ih t j
        · intro h
          simp only [List.length_set]
          simp only at h
          split at h
          · cases h
          · exact ih t j h
      · exact ih t j

theorem fixK_end (N : Nat) (x : Kall) (i : Nat) (n : Nte) : fixK N (endK x i n) = endK (fixK N x) i n := by
  unfold endK
  rw [fixK_beg, fixK_put, fixK_value]
  unfold fixK
  simp

theorem runN_fix (N : Nat) (ns : List Nte) : ∀ k, (runN N ns k).out = (runN 0 ns k).out.map (fixK N) ∧ (runN N ns k).last = (runN 0 ns k).last
  | 0 => ⟨rfl, rfl⟩
  | k + 1 => by
    obtain ⟨h1, h2⟩ := runN_fix N ns k
    have h3 := runN_len 0 ns k
    rw [runN, runN]
    generalize runN N ns k = s at *
    generalize runN 0 ns k = s0 at *
    generalize ns.getD k Nte.none = n
    obtain ⟨o, la⟩ := s
    simp only at h1 h2
    subst h1 h2
    unfold stepC
    split
    · split
      · simp [begK, fixK]
      · simp
    · split
      · cases hla : s0.last n.thread with
        | none => simp
        | some j =>
          have hj := h3 _ _ hla
          simp only [List.map_set, fixK_end, and_true]
          simp [List.getD, hj]
      · simp

def run0 (ns : List Nte) : CSt := runN 0 ns ns.length
theorem runN_more (N : Nat) (ns : List Nte) (n : Nte) : ∀ k, k ≤ ns.length → runN N (ns ++ [n]) k = runN N ns k
  | 0, _ => rfl
  | k + 1, h => by
    rw [runN, runN, runN_more N ns n k (by omega)]
    have : (ns ++ [n]).getD k Nte.none = ns.getD k Nte.none := by
      simp [List.getD, List.getElem?_append_left (show k < ns.length by omega)]
    rw [this]
theorem run0_snoc (ns : List Nte) (n : Nte) : run0 (ns ++ [n]) = stepC 0 (run0 ns) ns.length n := by
  unfold run0
  rw [show (ns ++ [n]).length = ns.length + 1 by simp, runN, runN_more 0 ns n _ (Nat.le_refl _)]
  simp

/-- The queue stands as in the abstract. -/
structure Sim (sz : Nat) (q : TQ) (s : TS) : Prop where
  n : s.n = q.ns.length
  run : (run0 q.ns).out = (List.range s.m).map s.C
  last : ∀ t : Nat, (run0 q.ns).last (t : Int) = if s.pc t = 0 then .none else some (s.cur t)
  pc : ∀ t, s.pc t = (q.man t).pc
  at_ : ∀ t, s.pc t = 2 ∨ s.pc t = 4 ∨ s.pc t = 5 ∨ s.pc t = 6 → (q.man t).at_ = s.at_ t
  val : ∀ t, s.pc t = 1 ∨ s.pc t = 2 → (s.C (s.cur t)).value = (q.man t).value
  len : q.ws.length = sz + 2
  hd : q.word 0 = s.hd
  tl : q.word 1 = s.tl
  cell : ∀ k, k < sz → q.word (k + 2) = s.cell k

theorem man_set (q : TQ) {t : Nat} (ht : t < q.l.length) (y : Man) (u : Nat) : (q.setM t y).man u = if u = t then y else q.man u := by
  simp only [TQ.setM, TQ.man, List.getD, List.getElem?_set]
  by_cases h : u = t
  · subst h; simp [ht]
  · simp [h, Ne.symm h]
theorem word_set (q : TQ) {k : Nat} (hk : k < q.ws.length) (x : Int) (u : Nat) : (q.setW k x).word u = if u = k then x else q.word u := by
  simp only [TQ.setW, TQ.word, List.getD, List.getElem?_set]
  by_cases h : u = k
  · subst h; simp [hk]
  · simp [h, Ne.symm h]

theorem range_more (m : Nat) (C : Nat → Kall) (x : Kall) : (List.range m).map C ++ [x] = (List.range (m + 1)).map (upd C m x) := by
  rw [List.range_succ, List.map_append]
  congr 1
  · refine List.map_congr_left fun a ha => ?_
    have := List.mem_range.1 ha
    rw [upd_at, if_neg (by omega)]
  · simp [upd_at]
theorem range_set (m : Nat) (C : Nat → Kall) (c : Nat) (x : Kall) : ((List.range m).map C).set c x = (List.range m).map (upd C c x) := by
  apply List.ext_getElem
  · simp
  · intro i h1 h2
    simp only [List.getElem_set, List.getElem_map, List.getElem_range, upd_at]
    by_cases h : c = i
    · simp [h]
    · simp [h, Ne.symm h]

section
variable {sz tr : Nat} {q : TQ} {s : TS} {t : Nat}

theorem Sim.tic (h : Sim sz q s) : Sim sz q.tic s := ⟨h.n, h.run, h.last, h.pc, h.at_, h.val, h.len, h.hd, h.tl, h.cell⟩

theorem Sim.begin_ (h : Sim sz q s) (ht : t < q.l.length) (h0 : s.pc t = 0) (put : Bool) (v : Int) (hown : ∀ u, s.pc u ≠ 0 → s.cur u < s.m) :
    Sim sz ((q.setM t ⟨if put then 1 else 3, (q.man t).seq + 1, if put then v else 0, 0, 0⟩).tic.note 1 t 0 0 0) (s.beg t put (if put then v else 0)) := by
  have hm : ∀ u, ((q.setM t ⟨if put then 1 else 3, (q.man t).seq + 1, if put then v else 0, 0, 0⟩).tic.note 1 t 0 0 0).man u = if u = t then ⟨if put then 1 else 3, (q.man t).seq + 1, if put then v else 0, 0, 0⟩ else q.man u := man_set q ht _
  have hstep : run0 ((q.setM t ⟨if put then 1 else 3, (q.man t).seq + 1, if put then v else 0, 0, 0⟩).tic.note 1 t 0 0 0).ns = ⟨(run0 q.ns).out ++ [⟨q.ns.length, 0, true, put, if put then v else 0, 0⟩], fun u => if u = (t : Int) then some (run0 q.ns).out.length else (run0 q.ns).last u⟩ := by
    show run0 (q.ns ++ [nteQ 1 t ((q.setM t ⟨if put then 1 else 3, (q.man t).seq + 1, if put then v else 0, 0, 0⟩).man t) (q.time + 1) 0 0 0]) = _
    rw [run0_snoc, man_set q ht, if_pos rfl]
    cases put <;> simp [stepC, nteQ, begK]
  have hlen : (run0 q.ns).out.length = s.m := by rw [h.run]; simp
  refine ⟨?_, ?_, ?_, ?_, ?_, ?_, h.len, h.hd, h.tl, h.cell⟩
  · show s.n + 1 = _
    rw [h.n]; simp [TQ.note, TQ.tic, TQ.setM]
  · rw [hstep]
    show _ ++ _ = (List.range (s.m + 1)).map (upd s.C s.m _)
    rw [← range_more, h.run, h.n]
  · intro u
    rw [hstep]
    by_cases hu : u = t
    · subst hu; cases put <;> simp [TS.beg, upd_at, hlen]
    · have e1 : (s.beg t put (if put then v else 0)).pc u = s.pc u := by simp [TS.beg, upd_at, hu]
      have e2 : (s.beg t put (if put then v else 0)).cur u = s.cur u := by simp [TS.beg, upd_at, hu]
      rw [e1, e2, ← h.last u]
      exact if_neg (by omega)
  · intro u
    rw [hm]
    simp only [TS.beg, upd_at]
    by_cases hu : u = t
    · simp [hu]
    · simp only [if_neg hu]; exact h.pc u
  · intro u
    rw [hm]
    simp only [TS.beg, upd_at]
    by_cases hu : u = t
    · cases put <;> simp [hu]
    · simp only [if_neg hu]; exact h.at_ u
  · intro u
    rw [hm]
    simp only [TS.beg, upd_at]
    by_cases hu : u = t
    · simp [hu]
    · simp only [if_neg hu]
      intro hp
      rw [if_neg (by have := hown u (by omega); omega)]
      exact h.val u hp

theorem Sim.ends_w (h : Sim sz q s) (ht : t < q.l.length) (h0 : s.pc t ≠ 0) (code v : Int) (hown : s.cur t < s.m ∧ (s.C (s.cur t)).opn = true) (hinj : ∀ u, s.pc u ≠ 0 → s.cur u = s.cur t → u = t) : Sim sz (q.ends t code v) (s.fin t code v) := by
  have hm : ∀ u, (q.ends t code v).man u = if u = t then ⟨0, (q.man t).seq, 0, 0, 0⟩ else q.man u := man_set (q.note 3 t (q.man t).seq code v) ht _
  have hstep : run0 (q.ends t code v).ns = ⟨(run0 q.ns).out.set (s.cur t) ⟨(s.C (s.cur t)).beg, s.n, false, (s.C (s.cur t)).put, if (s.C (s.cur t)).put then (s.C (s.cur t)).value else v, code⟩, fun u => if u = (t : Int) then .none else (run0 q.ns).last u⟩ := by
    show run0 (q.ns ++ [nteQ 3 t (q.man t) q.time (q.man t).seq code v]) = _
    rw [run0_snoc]
    have hl := h.last t
    rw [if_neg h0] at hl
    have hg : (run0 q.ns).out.getD (s.cur t) Kall.none = s.C (s.cur t) := by
      rw [h.run]; simp [List.getD, hown.1]
    simp only [stepC, nteQ, hl, endK, hg, h.n]
    rfl
  refine ⟨?_, ?_, ?_, ?_, ?_, ?_, h.len, h.hd, h.tl, h.cell⟩
  · show s.n + 1 = _
    rw [h.n]; simp [TQ.ends, TQ.note, TQ.setM]
  · rw [hstep]
    show _ = (List.range s.m).map (upd s.C (s.cur t) _)
    rw [← range_set, h.run]
  · intro u
    rw [hstep]
    by_cases hu : u = t
    · subst hu; simp [TS.fin, upd_at]
    · have e1 : (s.fin t code v).pc u = s.pc u := by simp [TS.fin, upd_at, hu]
      rw [e1]
      exact (if_neg (by omega)).trans (h.last u)
  · intro u
    rw [hm]
    simp only [TS.fin, upd_at]
    by_cases hu : u = t
    · simp [hu]
    · simp only [if_neg hu]; exact h.pc u
  · intro u
    rw [hm]
    simp only [TS.fin, upd_at]
    by_cases hu : u = t
    · simp [hu]
    · simp only [if_neg hu]; exact h.at_ u
  · intro u
    rw [hm]
    simp only [TS.fin, upd_at]
    by_cases hu : u = t
    · simp [hu]
    · simp only [if_neg hu]
      intro hp
      rw [if_neg (fun e => hu (hinj u (by omega) e))]
      exact h.val u hp

theorem Sim.ends_ (h : Sim sz q s) (ht : t < q.l.length) (h0 : s.pc t ≠ 0) (code v : Int) (hi : TInv sz s) : Sim sz (q.ends t code v) (s.fin t code v) :=
  h.ends_w ht h0 code v (hi.own t h0) (fun u hu e => hi.inj u t hu h0 e)

/-- A thread goes elsewhere in its call. -/
theorem Sim.go (h : Sim sz q s) (ht : t < q.l.length) (h0 : s.pc t ≠ 0) (y : Man) (k : Nat) (hp : y.pc ≠ 0) (ha : y.pc = 2 ∨ y.pc = 4 ∨ y.pc = 5 ∨ y.pc = 6 → y.at_ = k) (hv : y.pc = 1 ∨ y.pc = 2 → (s.C (s.cur t)).value = y.value) :
    Sim sz (q.setM t y) (s.with_ t y.pc k) := by
  refine ⟨h.n, h.run, ?_, ?_, ?_, ?_, h.len, h.hd, h.tl, h.cell⟩
  · intro u
    simp only [TS.with_, upd_at]
    have := h.last u
    by_cases hu : u = t
    · subst hu; rw [if_neg h0] at this; simp [hp]; exact this
    · simp only [if_neg hu]; exact this
  · intro u
    rw [man_set q ht]
    simp only [TS.with_, upd_at]
    by_cases hu : u = t
    · simp [hu]
    · simp only [if_neg hu]; exact h.pc u
  · intro u
    rw [man_set q ht]
    simp only [TS.with_, upd_at]
    by_cases hu : u = t
    · simp only [if_pos hu]; exact ha
    · simp only [if_neg hu]; exact h.at_ u
  · intro u
    rw [man_set q ht]
    simp only [TS.with_, upd_at]
    by_cases hu : u = t
    · subst hu; simp only [if_true]; exact hv
    · simp only [if_neg hu]; exact h.val u

theorem upd_self {α : Type} (f : Nat → α) (i : Nat) : upd f i (f i) = f := by
  funext j; rw [upd_at]; split
  · rename_i h; rw [h]
  · rfl
theorem with_self (s : TS) (t : Nat) (p : Int) : s.with_ t p (s.at_ t) = s.to t p := by
  unfold TS.with_ TS.to; rw [upd_self]

theorem Sim.go' (h : Sim sz q s) (ht : t < q.l.length) (h0 : s.pc t ≠ 0) (y : Man) (hp : y.pc ≠ 0) (ha : y.pc = 2 ∨ y.pc = 4 ∨ y.pc = 5 ∨ y.pc = 6 → y.at_ = s.at_ t) (hv : y.pc = 1 ∨ y.pc = 2 → (s.C (s.cur t)).value = y.value) :
    Sim sz (q.setM t y) (s.to t y.pc) := by
  rw [← with_self]; exact h.go ht h0 y _ hp ha hv

theorem Sim.drawP_ (h : Sim sz q s) : Sim sz (q.setW 1 (q.word 1 + 1)) (s.drawP t) := by
  have hw := word_set q (k := 1) (by rw [h.len]; omega) (q.word 1 + 1)
  refine ⟨h.n, h.run, h.last, h.pc, h.at_, h.val, by simp [TQ.setW, h.len], ?_, ?_, ?_⟩
  · rw [hw]; exact h.hd
  · rw [hw, if_pos rfl, h.tl]; simp [TS.drawP]
  · intro k hk; rw [hw, if_neg (by omega)]; exact h.cell k hk
theorem Sim.drawT_ (h : Sim sz q s) : Sim sz (q.setW 0 (q.word 0 + 1)) (s.drawT t) := by
  have hw := word_set q (k := 0) (by rw [h.len]; omega) (q.word 0 + 1)
  refine ⟨h.n, h.run, h.last, h.pc, h.at_, h.val, by simp [TQ.setW, h.len], ?_, ?_, ?_⟩
  · rw [hw, if_pos rfl, h.hd]; simp [TS.drawT]
  · rw [hw]; exact h.tl
  · intro k hk; rw [hw, if_neg (by omega)]; exact h.cell k hk
theorem Sim.put_ (h : Sim sz q s) {k : Nat} (hk : k < sz) (x : Int) : Sim sz (q.setW (k + 2) x) (s.put k x) := by
  have hw := word_set q (k := k + 2) (by rw [h.len]; omega) x
  refine ⟨h.n, h.run, h.last, h.pc, h.at_, h.val, by simp [TQ.setW, h.len], ?_, ?_, ?_⟩
  · rw [hw]; exact h.hd
  · rw [hw]; exact h.tl
  · intro j hj
    rw [hw]
    simp only [TS.put, upd_at]
    by_cases e : j = k
    · simp [e]
    · rw [if_neg (by omega), if_neg e]; exact h.cell j hj

/-- What holds of the queue at each moment. -/
def Fine (sz : Nat) (q : TQ) : Prop := ∃ s, Sim sz q s ∧ TInv sz s

theorem Fine.right (h : Fine sz q) : wrongS (callsS q.ns) = false := by
  obtain ⟨s, hs, hi⟩ := h
  have : callsS q.ns = callsT s := by
    unfold callsS
    rw [runC_runN, (runN_fix q.ns.length q.ns q.ns.length).1]
    show (run0 q.ns).out.map _ = _
    rw [hs.run, callsT, hs.n, List.map_map]
    rfl
  rw [this]
  exact tickets_right hi

theorem Fine.tic (h : Fine sz q) : Fine sz q.tic := by
  obtain ⟨s, hs, hi⟩ := h
  exact ⟨s, hs.tic, hi⟩

theorem Fine.begin (h : Fine sz q) (ht : t < q.l.length) (put : Bool) (v : Int) (hv : put = true → 0 ≤ v) : Fine sz (q.begin t (if put then 1 else 3) (if put then v else 0)) := by
  obtain ⟨s, hs, hi⟩ := h
  unfold TQ.begin
  split
  · exact ⟨s, hs, hi⟩
  · rename_i hn
    have h0 : s.pc t = 0 := by rw [hs.pc]; omega
    exact ⟨_, hs.begin_ ht h0 put v (fun u hu => (hi.own u hu).1), hi.beg h0 put _ (by intro e; rw [e]; exact hv e)⟩

theorem Fine.out_ {s : TS} (hs : Sim sz q s) (hi : TInv sz s) (ht : t < q.l.length) (h1 : s.pc t = 1 ∨ s.pc t = 3) : Fine sz (q.ends t 6 0) :=
  ⟨_, hs.ends_ ht (by omega) 6 0 hi, hi.finX h1 6 0 (by omega) (by omega)⟩

theorem again_fine {pc : Int} (hs : Sim sz q s) (_ : TInv sz s) (ht : t < q.l.length) (h0 : s.pc t ≠ 0) (hp : pc = 1 ∨ pc = 3) (hv : pc = 1 → (s.C (s.cur t)).value = (q.man t).value) (hi' : TInv sz (s.to t pc)) : Fine sz (q.again tr t pc) := by
  have hs' := hs.go' ht h0 ⟨pc, (q.man t).seq, (q.man t).value, (q.man t).at_, (q.man t).try_ + 1⟩ (by show pc ≠ 0; omega) (by show pc = 2 ∨ pc = 4 ∨ pc = 5 ∨ pc = 6 → _; omega) (by show pc = 1 ∨ pc = 2 → _; intro h; exact hv (by omega))
  unfold TQ.again
  split
  · exact Fine.out_ hs' hi' (by simpa [TQ.setM] using ht) (by simpa [TS.to, upd_at] using hp)
  · exact ⟨_, hs', hi'⟩

theorem Fine.step (h : Fine sz q) (ht : t < q.l.length) : Fine sz (q.step sz tr t) := by
  obtain ⟨s, hs, hi⟩ := h
  have hpc := hs.pc t
  unfold TQ.step
  split
  · rename_i h1
    rw [← hpc] at h1
    have hs1 := hs.drawP_ (t := t)
    have hi1 := hi.drawP h1
    unfold TQ.ticket
    split
    · exact Fine.out_ hs1 hi1 (by simpa [TQ.setW] using ht) (.inl h1)
    · rename_i hz
      have hz' : s.tl < sz := by rw [hs.tl] at hz; omega
      refine ⟨_, hs1.go (by simpa [TQ.setW] using ht) (by show s.pc t ≠ 0; omega) _ s.tl (by show (2 : Int) ≠ 0; omega) (fun _ => hs.tl) (fun _ => hs.val t (.inl h1)), ?_⟩
      exact hi1.holdP h1 s.tl (by show s.tl < s.tl + 1; omega) hz' (by show upd s.pt s.tl (s.cur t) s.tl = _; simp [upd_at, TS.drawP])
  · split
    · rename_i _ h2
      rw [← hpc] at h2
      have hh := hi.hold2 t h2
      have hat := hs.at_ t (.inl h2)
      have hca : q.cellAt t = s.at_ t + 2 := by unfold TQ.cellAt; rw [hat]; simp
      rw [hca, hs.cell _ hh.2.1]
      split
      · rename_i hc
        have hput := hs.put_ hh.2.1 ((q.man t).value + 2)
        rw [← hs.val t (.inr h2)] at hput ⊢
        -- the invariant holds behind both
        have hi2 := hi.putOk h2 hc 0
        refine ⟨_, ?_, hi2⟩
        have hown := hi.own t (by omega)
        -- the end alone needs what the cell does not touch
        exact Sim.ends_w hput (by simpa [TQ.setW] using ht) (by show s.pc t ≠ 0; omega) 0 0 hown (fun u hu e => hi.inj u t hu (by omega) e)
      · exact again_fine hs hi ht (by omega) (.inl rfl) (fun _ => hs.val t (.inr h2)) (hi.back1 h2)
    · split
      · rename_i _ _ h3
        rw [← hpc] at h3
        have hs1 := hs.drawT_ (t := t)
        unfold TQ.ticket
        split
        · rename_i hz
          have hz' : sz ≤ s.hd := by rw [hs.hd] at hz; omega
          exact Fine.out_ hs1 (hi.drawOut h3 hz') (by simpa [TQ.setW] using ht) (.inr h3)
        · rename_i hz
          have hz' : s.hd < sz := by rw [hs.hd] at hz; omega
          exact ⟨_, hs1.go (by simpa [TQ.setW] using ht) (by show s.pc t ≠ 0; omega) _ s.hd (by show (4 : Int) ≠ 0; omega) (fun _ => hs.hd) (by show (4 : Int) = 1 ∨ (4 : Int) = 2 → _; omega), hi.drawT h3 hz'⟩
      · split
        · rename_i _ _ _ h4
          rw [← hpc] at h4
          have hh := hi.hold4 t (.inl h4)
          have hat := hs.at_ t (by omega)
          have hca : q.cellAt t = s.at_ t + 2 := by unfold TQ.cellAt; rw [hat]; simp
          rw [hca, hs.cell _ hh.2.1]
          split
          · rename_i hc
            exact ⟨_, (hs.put_ hh.2.1 1).go' (by simpa [TQ.setW] using ht) (by show s.pc t ≠ 0; omega) ⟨6, (q.man t).seq, (q.man t).value, (q.man t).at_, (q.man t).try_⟩ (by show (6 : Int) ≠ 0; omega) (fun _ => hat) (by show (6 : Int) = 1 ∨ (6 : Int) = 2 → _; omega), hi.never h4 hc⟩
          · rename_i hc
            exact ⟨_, hs.go' ht (by omega) ⟨5, (q.man t).seq, (q.man t).value, (q.man t).at_, (q.man t).try_⟩ (by show (5 : Int) ≠ 0; omega) (fun _ => hat) (by show (5 : Int) = 1 ∨ (5 : Int) = 2 → _; omega), hi.seen h4 hc⟩
        · split
          · rename_i _ _ _ _ h5
            rw [← hpc] at h5
            have hh := hi.hold4 t (.inr (.inl h5))
            have hat := hs.at_ t (by omega)
            have hca : q.cellAt t = s.at_ t + 2 := by unfold TQ.cellAt; rw [hat]; simp
            rw [hca, hs.cell _ hh.2.1]
            exact ⟨_, hs.ends_ ht (by omega) 0 _ hi, hi.takeOk h5⟩
          · split
            · rename_i _ _ _ _ _ h6
              rw [← hpc] at h6
              have hat := hs.at_ t (by omega)
              rw [hs.tl, hat]
              split
              · rename_i hl
                exact ⟨_, hs.ends_ ht (by omega) 10 0 hi, hi.block h6 (by omega) 0⟩
              · exact again_fine hs hi ht (by omega) (.inr rfl) (by omega) (hi.back3 h6)
            · exact ⟨s, hs, hi⟩

theorem Fine.act (h : Fine sz q) (kind t x : Int) : Fine sz (q.act sz tr kind t x) := by
  unfold TQ.act
  split
  · exact h
  · split
    · split
      · exact h
      · exact h.begin (put := true) (by omega) x (by omega)
    · split
      · exact h.begin (put := false) (by omega) x (by intro e; cases e)
      · exact h.tic.step (by show _ < q.l.length; omega)
end

/-- The queue at first. -/
def TQ.new (sz th : Nat) : TQ := ⟨List.replicate (sz + 2) 0, List.replicate th Man.none, [], 0⟩

theorem fine_new (sz th : Nat) : Fine sz (TQ.new sz th) := by
  have hw : ∀ k, (TQ.new sz th).word k = 0 := by intro k; simp [TQ.new, TQ.word, List.getD, List.getElem?_replicate]; split <;> rfl
  have hm : ∀ k, (TQ.new sz th).man k = Man.none := by intro k; simp [TQ.new, TQ.man, List.getD, List.getElem?_replicate]; split <;> rfl
  refine ⟨⟨0, 0, 0, 0, fun _ => 0, fun _ => 0, fun _ => 0, fun _ => 0, fun _ => Kall.none, fun _ => 0, fun _ => 0, fun _ => 0, fun _ => 0⟩, ⟨rfl, rfl, fun _ => rfl, fun t => by rw [hm]; rfl, by simp, by simp, by simp [TQ.new], by rw [hw]; rfl, by rw [hw]; rfl, fun k _ => hw _⟩, ?_⟩
  constructor <;> simp

/-- All acts, one behind the other. -/
def runQ (sz tr : Nat) (q : TQ) (l : List (Int × Int × Int)) : TQ := l.foldl (fun q a => q.act sz tr a.1 a.2.1 a.2.2) q

theorem runQ_fine (sz tr : Nat) : ∀ (l : List (Int × Int × Int)) (q : TQ), Fine sz q → Fine sz (runQ sz tr q l)
  | [], _, h => h
  | a :: l, _, h => runQ_fine sz tr l _ (h.act a.1 a.2.1 a.2.2)

end Go.Proofs.YtieglgahfeecbaaGreatDoor

namespace Go.Proofs.YtieglgahfeecbaaGreatDoor
open Go.RowKit Go.Sort

/-- How many notes there are ahead of the call behind so many. -/
def firstN : List NtP → Nat → Nat → Nat
  | [], _, i => i
  | x :: r, left, i => if x.kind = 1 then (if left = 0 then i else firstN r (left - 1) (i + 1)) else firstN r left (i + 1)
theorem firstN_le : ∀ (l : List NtP) (left i : Nat), firstN l left i ≤ i + l.length
  | [], _, _ => by simp [firstN]
  | x :: r, left, i => by
    simp only [firstN, List.length_cons]
    split
    · split
      · omega
      · have := firstN_le r (left - 1) (i + 1); omega
    · have := firstN_le r left (i + 1); omega

theorem take_getD {l : List NtP} {m k : Nat} (h : k < m) : (l.take m).getD k NtP.none = l.getD k NtP.none := by
  simp [List.getD, h]

theorem effK_at (c : Cfg) (s : StP) : ∀ (k : Nat) (s' : StP), s' ∈ effK c s k → s'.at_ = s.at_
  | 0, s', h => by simp [effK] at h
  | k + 1, s', h => by
    simp only [effK, List.mem_append] at h
    rcases h with h | h
    · exact effK_at c s k s' h
    · split at h
      · simp only [List.mem_singleton] at h; rw [h]
      · cases h
theorem waysS_at {c : Cfg} {ns : List NtP} {s s' : StP} (h : s' ∈ waysS c ns s) : s'.at_ ≤ s.at_ + 1 := by
  unfold waysS at h
  simp only at h
  split at h
  · simp only [List.mem_singleton] at h; rw [h]; exact Nat.le_refl _
  · split at h
    · simp only [List.mem_singleton] at h; rw [h]; exact Nat.le_refl _
    · rcases List.mem_append.1 h with h | h
      · split at h
        · simp only [List.mem_singleton] at h; rw [h]; exact Nat.le_refl _
        · cases h
      · rw [effK_at c s _ s' h]; omega

theorem expl_take {c : Cfg} {ns : List NtP} {m : Nat} (hm : m ≤ ns.length) {s : StP} (h : Expl c ns s) : s.at_ ≤ m → Expl c (ns.take m) s := by
  induction h with
  | done s h =>
    intro hs
    exact .done s (by rw [List.length_take]; omega)
  | way s s' hlt hw _ ih =>
    intro hs
    by_cases he : s.at_ = m
    · exact .done s (by rw [List.length_take]; omega)
    · have e : waysS c (ns.take m) s = waysS c ns s := by
        unfold waysS
        rw [take_getD (by omega)]
      have h1 := waysS_at hw
      exact .way s s' (by rw [List.length_take]; omega) (by rw [e]; exact hw) (ih (by omega))

theorem knowK_take {threads : Nat} {ns : List NtP} {m : Nat} : ∀ k, k ≤ m → knowK threads (ns.take m) k = knowK threads ns k
  | 0, _ => rfl
  | k + 1, h => by
    simp only [knowK]
    rw [knowK_take k (by omega), take_getD (by omega)]
theorem callsK_take {ns : List NtP} {m : Nat} : ∀ k, k ≤ m → callsK (ns.take m) k = callsK ns k
  | 0, _ => rfl
  | k + 1, h => by
    simp only [callsK]
    rw [callsK_take k (by omega), take_getD (by omega)]
theorem knowK_some {threads : Nat} {ns : List NtP} : ∀ d k, ∀ l, knowK threads ns (k + d) = some l → ∃ l', knowK threads ns k = some l'
  | 0, k, l, h => ⟨l, h⟩
  | d + 1, k, l, h => by
    have e : k + (d + 1) = (k + d) + 1 := by omega
    rw [e, knowK] at h
    cases h2 : knowK threads ns (k + d) with
    | none => rw [h2] at h; cases h
    | some l2 => exact knowK_some d k l2 h2
theorem callsK_mono {ns : List NtP} : ∀ d k, callsK ns k ≤ callsK ns (k + d)
  | 0, _ => Nat.le_refl _
  | d + 1, k => by
    have := callsK_mono (ns := ns) d k
    have e : k + (d + 1) = (k + d) + 1 := by omega
    rw [e, callsK]; omega

theorem checkS_ok {c : Cfg} {ns : List NtP} (h : checkS c ns = 0) : chkB c = true ∧ (∃ l, knowK c.threads.toNat ns ns.length = some l) ∧ callsK ns ns.length ≤ 8 := by
  unfold checkS at h
  split at h
  · omega
  · rename_i h1
    cases h2 : knowK c.threads.toNat ns ns.length with
    | none => rw [h2] at h; simp at h
    | some l =>
      rw [h2] at h
      simp only at h
      split at h
      · omega
      · exact ⟨by simpa using h1, ⟨l, rfl⟩, by omega⟩

theorem check_take {c : Cfg} {ns : List NtP} {m : Nat} (hm : m ≤ ns.length) (h : checkS c ns = 0) : checkS c (ns.take m) = 0 := by
  obtain ⟨h1, ⟨l, h2⟩, h3⟩ := checkS_ok h
  have e : (ns.take m).length = m := by rw [List.length_take]; omega
  obtain ⟨l', h4⟩ := knowK_some (threads := c.threads.toNat) (ns := ns) (ns.length - m) m l (by rw [show m + (ns.length - m) = ns.length by omega]; exact h2)
  have h5 := callsK_mono (ns := ns) (ns.length - m) m
  rw [show m + (ns.length - m) = ns.length by omega] at h5
  unfold checkS
  rw [e, knowK_take m (Nat.le_refl _), callsK_take m (Nat.le_refl _), h4]
  simp only [h1]
  rw [if_neg (by simp), if_neg (by omega)]

end Go.Proofs.YtieglgahfeecbaaGreatDoor
