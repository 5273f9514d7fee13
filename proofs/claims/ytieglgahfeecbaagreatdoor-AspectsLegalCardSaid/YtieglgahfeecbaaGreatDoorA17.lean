/- Plain: a queue's effects, one by one: what holds of them stays. -/
import Derived.Test.YtieglgahfeecbaaGreatDoorA16
namespace Go.Proofs.YtieglgahfeecbaaGreatDoor
open Go.RowKit Go.Sort

def TS.tick (s : TS) : TS := { s with n := s.n + 1 }

section
variable {s : TS} {t : Nat}

theorem FInv.tick (h : FInv s) : FInv s.tick := by
  obtain ⟨cb, pdraw, pfin, tdraw, tfin, pmono, tmono, hl, pinj, tinj, ptle, pdone, tdone, tval, tblock⟩ := h
  exact ⟨fun c hc => by have := cb c hc; simp only [TS.tick]; omega, pdraw, pfin, tdraw, tfin, pmono, tmono, hl, pinj, tinj, ptle, pdone, tdone, tval, tblock⟩

set_option maxHeartbeats 4000000 in
theorem FInv.beg_ (h : FInv s) (put : Bool) (v : Int) : FInv (s.beg t put v) := by
  obtain ⟨cb, pdraw, pfin, tdraw, tfin, pmono, tmono, hl, pinj, tinj, ptle, pdone, tdone, tval, tblock⟩ := h
  constructor
  case pmono => exact pmono
  case tmono => exact tmono
  case hl => exact hl
  case pinj => exact pinj
  case tinj => exact tinj
  case ptle => exact ptle
  case cb => clear pdraw pfin tdraw tfin pmono tmono pinj tinj ptle pdone tdone tval tblock; simp only [TS.beg, upd_at]; grind
  case pdraw => clear pfin tdraw tfin pmono tmono pinj tinj ptle pdone tdone tval tblock; simp only [TS.beg, upd_at]; grind
  case pfin => clear tdraw tfin pmono tmono pinj tinj ptle pdone tdone tval tblock; simp only [TS.beg, upd_at]; grind
  case tdraw => clear pfin pdraw tfin pmono tmono pinj tinj ptle pdone tdone tval tblock; simp only [TS.beg, upd_at]; grind
  case tfin => clear pfin pdraw pmono tmono pinj tinj ptle pdone tdone tval tblock; simp only [TS.beg, upd_at]; grind
  case pdone => clear pfin pdraw pmono tmono pinj tinj ptle tdraw tfin tdone tval tblock; simp only [TS.beg, upd_at]; grind
  case tdone => clear pfin pdraw pmono tmono pinj tinj ptle tdraw tfin pdone tval tblock; simp only [TS.beg, upd_at]; grind
  case tval => clear pfin pmono tmono pinj tinj ptle tfin pdone tdone tblock; simp only [TS.beg, upd_at]; grind
  case tblock =>
    intro c h1 h2 h3 h4
    simp only [TS.beg, upd_at] at h1 h2 h3 h4 ⊢
    by_cases e : c = s.m
    · rw [if_pos e] at h3; cases h3
    · rw [if_neg e] at h2 h3 h4 ⊢
      exact tblock c (by omega) h2 h3 h4

set_option maxHeartbeats 4000000 in
theorem FInv.fin_ (h : FInv s) (hc : s.cur t < s.m) (code v : Int)
    (hp : code = 0 → (s.C (s.cur t)).put = true → ∃ k, k < s.tl ∧ s.pt k = s.cur t)
    (ht : code = 0 → (s.C (s.cur t)).put = false → ∃ k, k < s.hd ∧ s.tt k = s.cur t)
    (hv : ∀ k, k < s.hd → s.tt k = s.cur t → code = 0 ∧ v = (s.C (s.pt k)).value)
    (hblk : (s.C (s.cur t)).put = false → code = 10 → ∃ k, k ≤ s.hd ∧ (∀ j, j < s.tl → (s.pm j : Int) ≤ (s.C (s.cur t)).beg → j < k) ∧ ∀ j, j < k → s.tm j ≤ s.n)
    (hpm : ∀ k, k < s.tl → s.pm k ≤ s.n) (htm : ∀ k, k < s.hd → s.tm k ≤ s.n) : FInv (s.fin t code v) := by
  obtain ⟨cb, pdraw, pfin, tdraw, tfin, pmono, tmono, hl, pinj, tinj, ptle, pdone, tdone, tval, tblock⟩ := h
  constructor
  case pmono => exact pmono
  case tmono => exact tmono
  case hl => exact hl
  case pinj => exact pinj
  case tinj => exact tinj
  case ptle => exact ptle
  case cb => clear pdraw pfin tdraw tfin pmono tmono pinj tinj ptle pdone tdone tval tblock hp ht hv hblk hpm htm; simp only [TS.fin, upd_at]; grind
  case pdraw => clear pfin tdraw tfin pmono tmono pinj tinj ptle pdone tdone tval tblock hp ht hv hblk hpm htm; simp only [TS.fin, upd_at]; grind
  case pfin => clear tdraw tfin pmono tmono pinj tinj ptle pdone tdone tval tblock hp ht hv hblk htm; simp only [TS.fin, upd_at]; grind
  case tdraw => clear pfin pdraw tfin pmono tmono pinj tinj ptle pdone tdone tval tblock hp ht hv hblk hpm htm; simp only [TS.fin, upd_at]; grind
  case tfin => clear pfin pdraw pmono tmono pinj tinj ptle pdone tdone tval tblock hp ht hv hblk hpm; simp only [TS.fin, upd_at]; grind
  case pdone => clear pfin pdraw pmono tmono pinj tinj ptle tdraw tfin tdone tval tblock ht hv hblk hpm htm; simp only [TS.fin, upd_at]; grind
  case tdone => clear pfin pdraw pmono tmono pinj tinj ptle tdraw tfin pdone tval tblock hp hv hblk hpm htm; simp only [TS.fin, upd_at]; grind
  case tval =>
    clear pfin pmono tmono pinj tinj ptle tfin pdone tdone tblock hp ht hblk hpm htm
    intro k hk
    simp only [TS.fin, upd_at]
    have h1 := tdraw k hk
    have h2 := pdraw k (Nat.lt_of_lt_of_le hk hl)
    have h3 := tval k hk
    have h4 := hv k hk
    simp only [TS.fin] at hk
    grind
  case tblock =>
    intro c h1 h2 h3 h4
    simp only [TS.fin, upd_at] at h1 h2 h3 h4 ⊢
    by_cases e : c = s.cur t
    · subst e
      simp only [if_true] at h2 h3 h4 ⊢
      obtain ⟨k, g1, g2, g3⟩ := hblk h2 h4
      exact ⟨k, g1, g2, fun j hj => by have := g3 j hj; omega⟩
    · simp only [if_neg e] at h2 h3 h4 ⊢
      exact tblock c h1 h2 h3 h4

set_option maxHeartbeats 4000000 in
theorem FInv.drawP_ (h : FInv s) (hc : s.cur t < s.m) (hput : (s.C (s.cur t)).put = true) (ho : (s.C (s.cur t)).opn = true)
    (hnew : ∀ k, k < s.tl → s.pt k ≠ s.cur t) (hpm : ∀ k, k < s.tl → s.pm k ≤ s.n) : FInv (s.drawP t) := by
  obtain ⟨cb, pdraw, pfin, tdraw, tfin, pmono, tmono, hl, pinj, tinj, ptle, pdone, tdone, tval, tblock⟩ := h
  constructor
  case cb => exact cb
  case tdraw => exact tdraw
  case tfin => exact tfin
  case tmono => exact tmono
  case tinj => exact tinj
  case tdone => exact tdone
  case hl => simp only [TS.drawP]; omega
  case pdraw => clear pfin tdraw tfin pmono tmono pinj tinj ptle pdone tdone tval tblock hnew hpm; simp only [TS.drawP, upd_at]; grind
  case pfin => clear tdraw tfin pmono tmono pinj tinj ptle pdone tdone tval tblock hnew hpm; simp only [TS.drawP, upd_at]; grind
  case pmono => clear tdraw tfin pfin tmono pinj tinj ptle pdone tdone tval tblock hnew; simp only [TS.drawP, upd_at]; grind
  case pinj =>
    intro k k' h1 h2 h3
    simp only [TS.drawP, upd_at] at h1 h2 h3
    by_cases e : k = s.tl
    · by_cases e' : k' = s.tl
      · omega
      · rw [if_pos e, if_neg e'] at h3
        exact absurd h3.symm (hnew k' (by omega))
    · by_cases e' : k' = s.tl
      · rw [if_neg e, if_pos e'] at h3
        exact absurd h3 (hnew k (by omega))
      · rw [if_neg e, if_neg e'] at h3
        exact pinj k k' (by omega) (by omega) h3
  case ptle => clear tdraw tfin pfin tmono tinj pinj pdone tdone tval tblock hpm; simp only [TS.drawP, upd_at]; grind
  case pdone => clear pfin pdraw pmono tmono pinj tinj ptle tdraw tfin tdone tval tblock hpm hnew; simp only [TS.drawP, upd_at]; grind
  case tval => clear pfin pmono tmono pinj tinj ptle tfin pdone tdone tblock hpm hnew; simp only [TS.drawP, upd_at]; grind
  case tblock =>
    intro c h1 h2 h3 h4
    obtain ⟨k, g1, g2, g3⟩ := tblock c h1 h2 h3 h4
    have := cb c h1
    refine ⟨k, g1, fun j hj hb => ?_, g3⟩
    simp only [TS.drawP, upd_at] at hj hb
    by_cases e : j = s.tl
    · rw [if_pos e] at hb
      omega
    · rw [if_neg e] at hb
      exact g2 j (by omega) hb

set_option maxHeartbeats 4000000 in
theorem FInv.drawT_ (h : FInv s) (hc : s.cur t < s.m) (hput : (s.C (s.cur t)).put = false) (ho : (s.C (s.cur t)).opn = true)
    (hnew : ∀ k, k < s.hd → s.tt k ≠ s.cur t) (hpm : ∀ k, k < s.tl → s.pm k ≤ s.n) (htm : ∀ k, k < s.hd → s.tm k ≤ s.n) (hlt : s.hd < s.tl) : FInv (s.drawT t) := by
  obtain ⟨cb, pdraw, pfin, tdraw, tfin, pmono, tmono, hl, pinj, tinj, ptle, pdone, tdone, tval, tblock⟩ := h
  constructor
  case cb => exact cb
  case pdraw => exact pdraw
  case pfin => exact pfin
  case pmono => exact pmono
  case pinj => exact pinj
  case pdone => exact pdone
  case hl => simp only [TS.drawT]; omega
  case tdraw => clear pfin pdraw tfin pmono tmono pinj tinj ptle pdone tdone tval tblock hnew hpm htm; simp only [TS.drawT, upd_at]; grind
  case tfin => clear tdraw pdraw pfin pmono tmono pinj tinj ptle pdone tdone tval tblock hnew hpm htm; simp only [TS.drawT, upd_at]; grind
  case tmono => clear tdraw tfin pfin pmono pdraw pinj tinj ptle pdone tdone tval tblock hnew hpm; simp only [TS.drawT, upd_at]; grind
  case tinj =>
    intro k k' h1 h2 h3
    simp only [TS.drawT, upd_at] at h1 h2 h3
    by_cases e : k = s.hd
    · by_cases e' : k' = s.hd
      · omega
      · rw [if_pos e, if_neg e'] at h3
        exact absurd h3.symm (hnew k' (by omega))
    · by_cases e' : k' = s.hd
      · rw [if_neg e, if_pos e'] at h3
        exact absurd h3 (hnew k (by omega))
      · rw [if_neg e, if_neg e'] at h3
        exact tinj k k' (by omega) (by omega) h3
  case ptle => clear tdraw tfin pfin tmono tinj pinj pdone tdone tval tblock htm hnew; simp only [TS.drawT, upd_at]; grind
  case tdone => clear pfin pdraw pmono tmono pinj tinj ptle tdraw tfin pdone tval tblock hpm hnew htm; simp only [TS.drawT, upd_at]; grind
  case tval => clear pfin pmono tmono pinj tinj ptle tfin pdone tdone tblock hpm hnew htm; simp only [TS.drawT, upd_at]; grind
  case tblock =>
    intro c h1 h2 h3 h4
    obtain ⟨k, g1, g2, g3⟩ := tblock c h1 h2 h3 h4
    refine ⟨k, by simp only [TS.drawT]; omega, g2, fun j hj => ?_⟩
    simp only [TS.drawT, upd_at]
    rw [if_neg (by omega)]
    exact g3 j hj
end

/-- A thread is in a call of a queue. -/
def liveQ (y : OpP) : Prop := y.on = true ∧ (y.req.kind = 8 ∨ y.req.kind = 9)

/-- Threads' calls, what they came to, and what lies in the queue. -/
structure AQ (N : Nat) (L : Nat → OpP) (D : Nat → Resr) (q : List Int) (z : TS) : Prop where
  cur : ∀ t, t < N → liveQ (L t) → z.cur t < z.m ∧ (z.C (z.cur t)).opn = true ∧ (z.C (z.cur t)).put = decide ((L t).req.kind = 8) ∧ ((L t).req.kind = 8 → (z.C (z.cur t)).value = (L t).req.value)
  inj : ∀ t t', t < N → t' < N → liveQ (L t) → liveQ (L t') → z.cur t = z.cur t' → t = t'
  a1 : ∀ t, t < N → liveQ (L t) → ∀ k, k < z.tl → z.pt k = z.cur t → (L t).applied = true
  a2 : ∀ t, t < N → liveQ (L t) → (L t).applied = true → (L t).req.kind = 8 → (D t).code = 0 → ∃ k, k < z.tl ∧ z.pt k = z.cur t
  t1 : ∀ t, t < N → liveQ (L t) → ∀ k, k < z.hd → z.tt k = z.cur t → (L t).applied = true ∧ (D t).code = 0 ∧ (D t).value = (z.C (z.pt k)).value
  t2 : ∀ t, t < N → liveQ (L t) → (L t).applied = true → (L t).req.kind = 9 → (D t).code = 0 → ∃ k, k < z.hd ∧ z.tt k = z.cur t
  t3 : ∀ t, t < N → liveQ (L t) → (L t).applied = true → (L t).req.kind = 9 → (D t).code = 10 → ∃ k, k ≤ z.hd ∧ (∀ j, j < z.tl → (z.pm j : Int) ≤ (z.C (z.cur t)).beg → j < k) ∧ ∀ j, j < k → z.tm j ≤ z.n
  ql : z.tl = z.hd + q.length
  qv : ∀ i, i < q.length → q.getD i 0 = (z.C (z.pt (z.hd + i))).value
  pm : ∀ k, k < z.tl → z.pm k ≤ z.n
  tm : ∀ k, k < z.hd → z.tm k ≤ z.n
  inv : FInv z

section
variable {N : Nat} {L : Nat → OpP} {D : Nat → Resr} {q : List Int} {z : TS} {t : Nat}

theorem AQ.init (N : Nat) (D : Nat → Resr) : AQ N (fun _ => OpP.none) D [] ⟨0, 0, 0, 0, fun _ => 0, fun _ => 0, fun _ => 0, fun _ => 0, fun _ => Kall.none, fun _ => 0, fun _ => 0, fun _ => 0, fun _ => 0⟩ := by
  have hn : ¬ liveQ OpP.none := by simp [liveQ, OpP.none]
  exact ⟨fun _ _ h => absurd h hn, fun _ _ _ _ h => absurd h hn, fun _ _ h => absurd h hn, fun _ _ h => absurd h hn, fun _ _ h => absurd h hn, fun _ _ h => absurd h hn, fun _ _ h => absurd h hn, rfl, fun _ h => absurd h (Nat.not_lt_zero _), fun _ h => absurd h (Nat.not_lt_zero _), fun _ h => absurd h (Nat.not_lt_zero _),
    ⟨fun _ h => absurd h (Nat.not_lt_zero _), fun _ h => absurd h (Nat.not_lt_zero _), fun _ h => absurd h (Nat.not_lt_zero _), fun _ h => absurd h (Nat.not_lt_zero _), fun _ h => absurd h (Nat.not_lt_zero _), fun _ _ _ h => absurd h (Nat.not_lt_zero _), fun _ _ _ h => absurd h (Nat.not_lt_zero _), Nat.le_refl _, fun _ _ h => absurd h (Nat.not_lt_zero _), fun _ _ h => absurd h (Nat.not_lt_zero _), fun _ h => absurd h (Nat.not_lt_zero _), fun _ h => absurd h (Nat.not_lt_zero _), fun _ h => absurd h (Nat.not_lt_zero _), fun _ h => absurd h (Nat.not_lt_zero _), fun _ h => absurd h (Nat.not_lt_zero _)⟩⟩

/-- A note goes by. -/
theorem AQ.tick (h : AQ N L D q z) : AQ N L D q z.tick := by
  obtain ⟨cur, inj, a1, a2, t1, t2, t3, ql, qv, pm, tm, inv⟩ := h
  refine ⟨cur, inj, a1, a2, t1, t2, ?_, ql, qv, ?_, ?_, inv.tick⟩
  · intro t h1 h2 h3 h4 h5
    obtain ⟨k, g1, g2, g3⟩ := t3 t h1 h2 h3 h4 h5
    exact ⟨k, g1, g2, fun j hj => by have := g3 j hj; simp only [TS.tick]; omega⟩
  · intro k hk; have := pm k hk; simp only [TS.tick]; omega
  · intro k hk; have := tm k hk; simp only [TS.tick]; omega

/-- A thread is in no call of a queue. -/
theorem AQ.off (h : AQ N L D q z) (y : OpP) (hy : ¬ liveQ y) (r : Resr) : AQ N (upd L t y) (upd D t r) q z := by
  obtain ⟨cur, inj, a1, a2, t1, t2, t3, ql, qv, pm, tm, inv⟩ := h
  have hu : ∀ u, liveQ (upd L t y u) → u ≠ t ∧ upd L t y u = L u ∧ upd D t r u = D u := fun u hl => by
    by_cases e : u = t
    · subst e; rw [upd_at, if_pos rfl] at hl; exact absurd hl hy
    · exact ⟨e, by rw [upd_at, if_neg e], by rw [upd_at, if_neg e]⟩
  refine ⟨?_, ?_, ?_, ?_, ?_, ?_, ?_, ql, qv, pm, tm, inv⟩
  · intro u h1 h2; have e := (hu u h2).2.1; rw [e] at h2 ⊢; exact cur u h1 h2
  · intro u u' h1 h1' h2 h2'; have e := (hu u h2).2.1; have e' := (hu u' h2').2.1; rw [e] at h2; rw [e'] at h2'; exact inj u u' h1 h1' h2 h2'
  · intro u h1 h2; have e := (hu u h2).2.1; rw [e] at h2 ⊢; exact a1 u h1 h2
  · intro u h1 h2; have e := (hu u h2).2; rw [e.1] at h2 ⊢; rw [e.2]; exact a2 u h1 h2
  · intro u h1 h2; have e := (hu u h2).2; rw [e.1] at h2 ⊢; rw [e.2]; exact t1 u h1 h2
  · intro u h1 h2; have e := (hu u h2).2; rw [e.1] at h2 ⊢; rw [e.2]; exact t2 u h1 h2
  · intro u h1 h2; have e := (hu u h2).2; rw [e.1] at h2 ⊢; rw [e.2]; exact t3 u h1 h2

/-- A call begins. -/
theorem AQ.beg_ (h : AQ N L D q z) (y : OpP) (ha : y.applied = false) (v : Int) (hv : y.req.kind = 8 → v = y.req.value) :
    AQ N (upd L t y) D q (z.beg t (decide (y.req.kind = 8)) v) := by
  obtain ⟨cur, inj, a1, a2, t1, t2, t3, ql, qv, pm, tm, inv⟩ := h
  have hpt : ∀ k, k < z.tl → z.pt k < z.m := fun k hk => (inv.pdraw k hk).1
  have htt : ∀ k, k < z.hd → z.tt k < z.m := fun k hk => (inv.tdraw k hk).1
  have hl := inv.hl
  refine ⟨?_, ?_, ?_, ?_, ?_, ?_, ?_, ql, ?_, ?_, ?_, inv.beg_ _ _⟩
  · clear inj a1 a2 t1 t2 t3 qv pm tm inv hpt htt
    intro u h1 h2
    have := cur u h1
    simp only [TS.beg, upd_at] at h2 ⊢
    grind
  · clear a1 a2 t1 t2 t3 qv pm tm inv hpt htt
    intro u u' h1 h1' h2 h2'
    have g1 := cur u h1
    have g2 := cur u' h1'
    have g3 := inj u u' h1 h1'
    simp only [TS.beg, upd_at] at h2 h2' ⊢
    grind
  · clear inj a2 t1 t2 t3 qv pm tm inv htt
    intro u h1 h2 k hk
    have g1 := a1 u h1
    have g2 := hpt k hk
    simp only [TS.beg, upd_at] at h2 hk ⊢
    grind
  · clear inj a1 t1 t2 t3 qv pm tm inv htt
    intro u h1 h2
    have g1 := a2 u h1
    simp only [TS.beg, upd_at] at h2 ⊢
    grind
  · clear inj a1 a2 t2 t3 qv pm tm inv
    intro u h1 h2 k hk
    have g1 := t1 u h1
    have g2 := htt k hk
    have g3 := hpt k (Nat.lt_of_lt_of_le hk hl)
    simp only [TS.beg, upd_at] at h2 hk ⊢
    grind
  · clear inj a1 a2 t1 t3 qv pm tm inv
    intro u h1 h2
    have g1 := t2 u h1
    simp only [TS.beg, upd_at] at h2 ⊢
    grind
  · clear inj a1 a2 t1 t2 qv pm tm inv
    intro u h1 h2 h3 h4 h5
    have g1 := cur u h1
    have g2 := t3 u h1
    simp only [TS.beg, upd_at] at h2 h3 h4 ⊢
    by_cases e : u = t
    · subst e; simp [ha] at h3
    · simp only [if_neg e] at h2 h3 h4 ⊢
      obtain ⟨k, e1, e2, e3⟩ := g2 h2 h3 h4 h5
      have := (g1 h2).1
      rw [if_neg (by omega)]
      exact ⟨k, e1, e2, fun j hj => by have := e3 j hj; omega⟩
  · clear cur inj a1 a2 t1 t2 t3 pm tm inv htt
    intro i hi
    have g1 := hpt (z.hd + i) (by omega)
    have g2 := qv i hi
    simp only [TS.beg, upd_at]
    rw [if_neg (by omega)]
    exact g2
  · intro k hk; have := pm k hk; simp only [TS.beg]; omega
  · intro k hk; have := tm k hk; simp only [TS.beg]; omega

/-- A call ends: it had its effect, or is told to have had none. -/
theorem AQ.fin_ (h : AQ N L D q z) (ht : t < N) (hl : liveQ (L t)) (y : OpP) (hy : ¬ liveQ y) (code v : Int)
    (hr : ((L t).applied = true ∧ code = (D t).code ∧ v = (D t).value) ∨ ((L t).applied = false ∧ code ≠ 0 ∧ code ≠ 10)) : AQ N (upd L t y) D q (z.fin t code v) := by
  obtain ⟨cur, inj, a1, a2, t1, t2, t3, ql, qv, pm, tm, inv⟩ := h
  have hc := cur t ht hl
  have hk : (L t).req.kind = 8 ∨ (L t).req.kind = 9 := hl.2
  have hpt : ∀ k, k < z.tl → z.pt k < z.m ∧ (z.C (z.pt k)).put = true := fun k hk => ⟨(inv.pdraw k hk).1, (inv.pdraw k hk).2.1⟩
  have hlt := inv.hl
  have hval : ∀ k, k < z.tl → ((z.fin t code v).C (z.pt k)).value = (z.C (z.pt k)).value := fun k hk => by
    have := hpt k hk
    simp only [TS.fin, upd_at]
    grind
  have hu : ∀ u, liveQ (upd L t y u) → u ≠ t ∧ upd L t y u = L u := fun u hl => by
    by_cases e : u = t
    · subst e; rw [upd_at, if_pos rfl] at hl; exact absurd hl hy
    · exact ⟨e, by rw [upd_at, if_neg e]⟩
  have hcur : ∀ u, u < N → liveQ (L u) → u ≠ t → (z.fin t code v).C (z.cur u) = z.C (z.cur u) := fun u hu hlu hne => by
    have : z.cur u ≠ z.cur t := fun e => hne (inj u t hu ht hlu hl e)
    simp only [TS.fin, upd_at, if_neg this]
  refine ⟨?_, ?_, ?_, ?_, ?_, ?_, ?_, ql, ?_, ?_, ?_, inv.fin_ hc.1 code v ?_ ?_ ?_ ?_ pm tm⟩
  · intro u h1 h2
    have e := hu u h2
    rw [e.2] at h2 ⊢
    have := cur u h1 h2
    show z.cur u < z.m ∧ _
    simp only [show (z.fin t code v).cur u = z.cur u from rfl, hcur u h1 h2 e.1]
    exact this
  · intro u u' h1 h1' h2 h2'; have e := (hu u h2).2; have e' := (hu u' h2').2; rw [e] at h2; rw [e'] at h2'; exact inj u u' h1 h1' h2 h2'
  · intro u h1 h2; have e := (hu u h2).2; rw [e] at h2 ⊢; exact a1 u h1 h2
  · intro u h1 h2; have e := (hu u h2).2; rw [e] at h2 ⊢; exact a2 u h1 h2
  · intro u h1 h2 k hk hkt
    have e := (hu u h2).2
    rw [e] at h2 ⊢
    have := t1 u h1 h2 k hk hkt
    refine ⟨this.1, this.2.1, ?_⟩
    rw [this.2.2]
    exact (hval k (Nat.lt_of_lt_of_le hk hlt)).symm
  · intro u h1 h2; have e := (hu u h2).2; rw [e] at h2 ⊢; exact t2 u h1 h2
  · intro u h1 h2 h3 h4 h5
    have e := hu u h2
    rw [e.2] at h2 h3 h4
    obtain ⟨k, e1, e2, e3⟩ := t3 u h1 h2 h3 h4 h5
    refine ⟨k, e1, fun j hj hb => e2 j hj ?_, fun j hj => by have := e3 j hj; simp only [TS.fin]; omega⟩
    have hh := hcur u h1 h2 e.1
    show (z.pm j : Int) ≤ (z.C (z.cur u)).beg
    rw [← hh]; exact hb
  · intro i hi
    rw [qv i hi]
    exact (hval _ (by omega)).symm
  · intro k hk; have := pm k hk; simp only [TS.fin]; omega
  · intro k hk; have := tm k hk; simp only [TS.fin]; omega
  · intro h0 hp
    rcases hr with ⟨r1, r2, r3⟩ | ⟨r1, r2, r3⟩
    · refine a2 t ht hl r1 ?_ (by omega)
      rw [hc.2.2.1] at hp; simpa using hp
    · omega
  · intro h0 hp
    rcases hr with ⟨r1, r2, r3⟩ | ⟨r1, r2, r3⟩
    · refine t2 t ht hl r1 ?_ (by omega)
      rw [hc.2.2.1] at hp; simp at hp; omega
    · omega
  · intro k hk hkt
    have := t1 t ht hl k hk hkt
    rcases hr with ⟨r1, r2, r3⟩ | ⟨r1, r2, r3⟩
    · exact ⟨by omega, by rw [r3]; exact this.2.2⟩
    · rw [r1] at this; cases this.1
  · intro hp h0
    rcases hr with ⟨r1, r2, r3⟩ | ⟨r1, r2, r3⟩
    · refine t3 t ht hl r1 ?_ (by omega)
      rw [hc.2.2.1] at hp; simp at hp; omega
    · omega

/-- A value is put. -/
theorem AQ.effP (h : AQ N L D q z) (ht : t < N) (hl : liveQ (L t)) (hk : (L t).req.kind = 8) (ha : (L t).applied = false) (y : OpP) (hy : y = ⟨(L t).on, true, (L t).seq, (L t).req⟩) (r : Resr) :
    AQ N (upd L t y) (upd D t r) (q ++ [(L t).req.value]) (z.drawP t) := by
  obtain ⟨cur, inj, a1, a2, t1, t2, t3, ql, qv, pm, tm, inv⟩ := h
  have hc := cur t ht hl
  have hlt := inv.hl
  have hut : upd L t y t = y := by rw [upd_at, if_pos rfl]
  have hun : ∀ u, u ≠ t → upd L t y u = L u ∧ upd D t r u = D u := fun u e => ⟨by rw [upd_at, if_neg e], by rw [upd_at, if_neg e]⟩
  have hreq : ∀ u, (upd L t y u).req = (L u).req ∧ (upd L t y u).on = (L u).on := fun u => by
    by_cases e : u = t
    · subst e; rw [hut, hy]; exact ⟨rfl, rfl⟩
    · rw [(hun u e).1]; exact ⟨rfl, rfl⟩
  have hlv : ∀ u, liveQ (upd L t y u) ↔ liveQ (L u) := fun u => by unfold liveQ; rw [(hreq u).1, (hreq u).2]
  have hnew : ∀ k, k < z.tl → z.pt k ≠ z.cur t := fun k hk2 e => by have := a1 t ht hl k hk2 e; rw [ha] at this; cases this
  have hpt : ∀ k, k < z.tl → (z.drawP t).pt k = z.pt k ∧ (z.drawP t).pm k = z.pm k := fun k hk => by simp only [TS.drawP, upd_at]; rw [if_neg (by omega), if_neg (by omega)]; exact ⟨rfl, rfl⟩
  have hpt0 : (z.drawP t).pt z.tl = z.cur t ∧ (z.drawP t).pm z.tl = z.n := by simp [TS.drawP, upd_at]
  refine ⟨?_, ?_, ?_, ?_, ?_, ?_, ?_, ?_, ?_, ?_, tm, inv.drawP_ hc.1 (by rw [hc.2.2.1, hk]; rfl) hc.2.1 hnew pm⟩
  · intro u h1 h2
    rw [hlv u] at h2
    rw [(hreq u).1]
    exact cur u h1 h2
  · intro u u' h1 h1' h2 h2'
    rw [hlv] at h2 h2'
    exact inj u u' h1 h1' h2 h2'
  · intro u h1 h2 k hk2 hkt
    rw [hlv u] at h2
    by_cases e : u = t
    · subst e; rw [hut, hy]
    · rw [(hun u e).1]
      by_cases e2 : k = z.tl
      · subst e2
        rw [hpt0.1] at hkt
        exact absurd (inj t u ht h1 hl h2 hkt).symm e
      · have hk3 : k < z.tl := by simp only [TS.drawP] at hk2; omega
        rw [(hpt k hk3).1] at hkt
        exact a1 u h1 h2 k hk3 hkt
  · intro u h1 h2 h3 h4 h5
    rw [hlv u] at h2
    by_cases e : u = t
    · subst e
      exact ⟨z.tl, by simp [TS.drawP], hpt0.1⟩
    · rw [(hun u e).1] at h3 h4
      rw [(hun u e).2] at h5
      obtain ⟨k, g1, g2⟩ := a2 u h1 h2 h3 h4 h5
      exact ⟨k, by simp only [TS.drawP]; omega, by rw [(hpt k g1).1]; exact g2⟩
  · intro u h1 h2 k hk2 hkt
    rw [hlv u] at h2
    have hk3 : k < z.tl := Nat.lt_of_lt_of_le hk2 hlt
    have g := t1 u h1 h2 k hk2 hkt
    by_cases e : u = t
    · subst e; rw [ha] at g; cases g.1
    · rw [(hun u e).1, (hun u e).2]
      refine ⟨g.1, g.2.1, ?_⟩
      rw [(hpt k hk3).1]; exact g.2.2
  · intro u h1 h2 h3 h4 h5
    rw [hlv u] at h2
    by_cases e : u = t
    · subst e
      rw [(hreq u).1] at h4; omega
    · rw [(hun u e).1] at h3 h4
      rw [(hun u e).2] at h5
      exact t2 u h1 h2 h3 h4 h5
  · intro u h1 h2 h3 h4 h5
    rw [hlv u] at h2
    by_cases e : u = t
    · subst e
      rw [(hreq u).1] at h4; omega
    · rw [(hun u e).1] at h3 h4
      rw [(hun u e).2] at h5
      obtain ⟨k, g1, g2, g3⟩ := t3 u h1 h2 h3 h4 h5
      refine ⟨k, g1, fun j hj hb => ?_, g3⟩
      have hcb := inv.cb _ (cur u h1 h2).1
      by_cases e2 : j = z.tl
      · subst e2
        rw [hpt0.2] at hb
        exfalso
        have : (z.n : Int) ≤ (z.C (z.cur u)).beg := hb
        omega
      · have hj3 : j < z.tl := by simp only [TS.drawP] at hj; omega
        rw [(hpt j hj3).2] at hb
        exact g2 j hj3 hb
  · simp only [TS.drawP, List.length_append, List.length_cons, List.length_nil]; omega
  · intro i hi
    simp only [List.length_append, List.length_cons, List.length_nil] at hi
    show _ = (z.C ((z.drawP t).pt (z.hd + i))).value
    by_cases e : i = q.length
    · subst e
      rw [← ql, hpt0.1, hc.2.2.2 hk]
      simp [List.getD]
    · rw [(hpt (z.hd + i) (by omega)).1, ← qv i (by omega)]
      simp [List.getD, List.getElem?_append_left (show i < q.length by omega)]
  · intro k hk2
    show (z.drawP t).pm k ≤ z.n
    by_cases e : k = z.tl
    · subst e; rw [hpt0.2]; exact Nat.le_refl _
    · have hk3 : k < z.tl := by simp only [TS.drawP] at hk2; omega
      rw [(hpt k hk3).2]; exact pm k hk3

/-- A value is taken. -/
theorem AQ.effT (h : AQ N L D q z) (ht : t < N) (hl : liveQ (L t)) (hk : (L t).req.kind = 9) (ha : (L t).applied = false) (hq : 0 < q.length) (y : OpP) (hy : y = ⟨(L t).on, true, (L t).seq, (L t).req⟩) (r : Resr) (hr : r.code = 0 ∧ r.value = q.getD 0 0) :
    AQ N (upd L t y) (upd D t r) (q.drop 1) (z.drawT t) := by
  obtain ⟨cur, inj, a1, a2, t1, t2, t3, ql, qv, pm, tm, inv⟩ := h
  have hc := cur t ht hl
  have hlt := inv.hl
  have hut : upd L t y t = y := by rw [upd_at, if_pos rfl]
  have hutd : upd D t r t = r := by rw [upd_at, if_pos rfl]
  have hun : ∀ u, u ≠ t → upd L t y u = L u ∧ upd D t r u = D u := fun u e => ⟨by rw [upd_at, if_neg e], by rw [upd_at, if_neg e]⟩
  have hreq : ∀ u, (upd L t y u).req = (L u).req ∧ (upd L t y u).on = (L u).on := fun u => by
    by_cases e : u = t
    · subst e; rw [hut, hy]; exact ⟨rfl, rfl⟩
    · rw [(hun u e).1]; exact ⟨rfl, rfl⟩
  have hlv : ∀ u, liveQ (upd L t y u) ↔ liveQ (L u) := fun u => by unfold liveQ; rw [(hreq u).1, (hreq u).2]
  have hnew : ∀ k, k < z.hd → z.tt k ≠ z.cur t := fun k hk2 e => by have := t1 t ht hl k hk2 e; rw [ha] at this; cases this.1
  have htt : ∀ k, k < z.hd → (z.drawT t).tt k = z.tt k ∧ (z.drawT t).tm k = z.tm k := fun k hk => by simp only [TS.drawT, upd_at]; rw [if_neg (by omega), if_neg (by omega)]; exact ⟨rfl, rfl⟩
  have htt0 : (z.drawT t).tt z.hd = z.cur t ∧ (z.drawT t).tm z.hd = z.n := by simp [TS.drawT, upd_at]
  have hput : (z.C (z.cur t)).put = false := by rw [hc.2.2.1, hk]; rfl
  refine ⟨?_, ?_, ?_, ?_, ?_, ?_, ?_, ?_, ?_, pm, ?_, inv.drawT_ hc.1 hput hc.2.1 hnew pm tm (by omega)⟩
  · intro u h1 h2
    rw [hlv u] at h2
    rw [(hreq u).1]
    exact cur u h1 h2
  · intro u u' h1 h1' h2 h2'
    rw [hlv] at h2 h2'
    exact inj u u' h1 h1' h2 h2'
  · intro u h1 h2 k hk2 hkt
    rw [hlv u] at h2
    by_cases e : u = t
    · subst e; rw [hut, hy]
    · rw [(hun u e).1]
      exact a1 u h1 h2 k hk2 hkt
  · intro u h1 h2 h3 h4 h5
    rw [hlv u] at h2
    by_cases e : u = t
    · subst e
      rw [(hreq u).1] at h4; omega
    · rw [(hun u e).1] at h3 h4
      rw [(hun u e).2] at h5
      exact a2 u h1 h2 h3 h4 h5
  · intro u h1 h2 k hk2 hkt
    rw [hlv u] at h2
    by_cases e2 : k = z.hd
    · subst e2
      rw [htt0.1] at hkt
      have e := inj t u ht h1 hl h2 hkt
      subst e
      rw [hut, hutd, hy]
      refine ⟨rfl, hr.1, ?_⟩
      rw [hr.2, qv 0 hq]; rfl
    · have hk3 : k < z.hd := by simp only [TS.drawT] at hk2; omega
      rw [(htt k hk3).1] at hkt
      have g := t1 u h1 h2 k hk3 hkt
      by_cases e : u = t
      · subst e; rw [ha] at g; cases g.1
      · rw [(hun u e).1, (hun u e).2]
        exact g
  · intro u h1 h2 h3 h4 h5
    rw [hlv u] at h2
    by_cases e : u = t
    · subst e
      exact ⟨z.hd, by simp [TS.drawT], htt0.1⟩
    · rw [(hun u e).1] at h3 h4
      rw [(hun u e).2] at h5
      obtain ⟨k, g1, g2⟩ := t2 u h1 h2 h3 h4 h5
      exact ⟨k, by simp only [TS.drawT]; omega, by rw [(htt k g1).1]; exact g2⟩
  · intro u h1 h2 h3 h4 h5
    rw [hlv u] at h2
    by_cases e : u = t
    · subst e
      rw [hutd] at h5
      omega
    · rw [(hun u e).1] at h3 h4
      rw [(hun u e).2] at h5
      obtain ⟨k, g1, g2, g3⟩ := t3 u h1 h2 h3 h4 h5
      refine ⟨k, by simp only [TS.drawT]; omega, g2, fun j hj => ?_⟩
      rw [(htt j (by omega)).2]; exact g3 j hj
  · simp only [TS.drawT, List.length_drop]; omega
  · intro i hi
    simp only [List.length_drop] at hi
    show _ = (z.C (z.pt (z.hd + 1 + i))).value
    rw [show z.hd + 1 + i = z.hd + (i + 1) by omega, ← qv (i + 1) (by omega)]
    simp only [List.getD, List.getElem?_drop, Nat.add_comm]
  · intro k hk2
    show (z.drawT t).tm k ≤ z.n
    by_cases e : k = z.hd
    · subst e; rw [htt0.2]; exact Nat.le_refl _
    · have hk3 : k < z.hd := by simp only [TS.drawT] at hk2; omega
      rw [(htt k hk3).2]; exact tm k hk3

/-- Nothing is put, or taken, as there is no room, or nothing. -/
theorem AQ.effN (h : AQ N L D q z) (ht : t < N) (hl : liveQ (L t)) (ha : (L t).applied = false) (hq : (L t).req.kind = 9 → q.length = 0) (y : OpP) (hy : y = ⟨(L t).on, true, (L t).seq, (L t).req⟩) (r : Resr) (hr : r.code = 10) :
    AQ N (upd L t y) (upd D t r) q z := by
  obtain ⟨cur, inj, a1, a2, t1, t2, t3, ql, qv, pm, tm, inv⟩ := h
  have hc := cur t ht hl
  have hlt := inv.hl
  have hut : upd L t y t = y := by rw [upd_at, if_pos rfl]
  have hutd : upd D t r t = r := by rw [upd_at, if_pos rfl]
  have hun : ∀ u, u ≠ t → upd L t y u = L u ∧ upd D t r u = D u := fun u e => ⟨by rw [upd_at, if_neg e], by rw [upd_at, if_neg e]⟩
  have hreq : ∀ u, (upd L t y u).req = (L u).req ∧ (upd L t y u).on = (L u).on := fun u => by
    by_cases e : u = t
    · subst e; rw [hut, hy]; exact ⟨rfl, rfl⟩
    · rw [(hun u e).1]; exact ⟨rfl, rfl⟩
  have hlv : ∀ u, liveQ (upd L t y u) ↔ liveQ (L u) := fun u => by unfold liveQ; rw [(hreq u).1, (hreq u).2]
  have hcb := inv.cb _ hc.1
  refine ⟨?_, ?_, ?_, ?_, ?_, ?_, ?_, ql, qv, pm, tm, inv⟩
  · intro u h1 h2
    rw [hlv u] at h2
    rw [(hreq u).1]
    exact cur u h1 h2
  · intro u u' h1 h1' h2 h2'
    rw [hlv] at h2 h2'
    exact inj u u' h1 h1' h2 h2'
  · intro u h1 h2 k hk2 hkt
    rw [hlv u] at h2
    by_cases e : u = t
    · subst e; rw [hut, hy]
    · rw [(hun u e).1]
      exact a1 u h1 h2 k hk2 hkt
  · intro u h1 h2 h3 h4 h5
    rw [hlv u] at h2
    by_cases e : u = t
    · subst e
      rw [hutd] at h5; omega
    · rw [(hun u e).1] at h3 h4
      rw [(hun u e).2] at h5
      exact a2 u h1 h2 h3 h4 h5
  · intro u h1 h2 k hk2 hkt
    rw [hlv u] at h2
    have g := t1 u h1 h2 k hk2 hkt
    by_cases e : u = t
    · subst e; rw [ha] at g; cases g.1
    · rw [(hun u e).1, (hun u e).2]
      exact g
  · intro u h1 h2 h3 h4 h5
    rw [hlv u] at h2
    by_cases e : u = t
    · subst e
      rw [hutd] at h5; omega
    · rw [(hun u e).1] at h3 h4
      rw [(hun u e).2] at h5
      exact t2 u h1 h2 h3 h4 h5
  · intro u h1 h2 h3 h4 h5
    rw [hlv u] at h2
    by_cases e : u = t
    · subst e
      rw [(hreq u).1] at h4
      have := hq h4
      exact ⟨z.hd, Nat.le_refl _, fun j hj _ => by omega, tm⟩
    · rw [(hun u e).1] at h3 h4
      rw [(hun u e).2] at h5
      exact t3 u h1 h2 h3 h4 h5
end

end Go.Proofs.YtieglgahfeecbaaGreatDoor
