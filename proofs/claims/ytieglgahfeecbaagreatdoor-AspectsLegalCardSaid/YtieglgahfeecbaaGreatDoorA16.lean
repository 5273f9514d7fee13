/- Plain: histories that may be, and orders that explain them. -/
import Derived.Test.YtieglgahfeecbaaGreatDoorA15
import Derived.Test.YtieglgahfeecbaaGreatDoorA3
namespace Go.Proofs.YtieglgahfeecbaaGreatDoor

/-- A call that is open ends behind all notes. -/
def fixK (n : Nat) (x : Kall) : Kall := if x.opn = true then ⟨x.beg, n, x.opn, x.put, x.value, x.code⟩ else x
theorem fixK_beg (n : Nat) (x : Kall) : (fixK n x).beg = x.beg := by unfold fixK; split <;> rfl
theorem fixK_opn (n : Nat) (x : Kall) : (fixK n x).opn = x.opn := by unfold fixK; split <;> rfl
theorem fixK_put (n : Nat) (x : Kall) : (fixK n x).put = x.put := by unfold fixK; split <;> rfl
theorem fixK_value (n : Nat) (x : Kall) : (fixK n x).value = x.value := by unfold fixK; split <;> rfl
theorem fixK_code (n : Nat) (x : Kall) : (fixK n x).code = x.code := by unfold fixK; split <;> rfl
theorem fixK_fin (n : Nat) (x : Kall) (h : x.opn = false) : (fixK n x).fin = x.fin := by unfold fixK; rw [h]; rfl
theorem fixK_done (n : Nat) (x : Kall) : doneB (fixK n x) = doneB x := by unfold doneB; rw [fixK_opn, fixK_code]

/-- All calls, as the program gathers them. -/
def callsT (s : TS) : List Kall := (List.range s.m).map fun c => fixK s.n (s.C c)

theorem callsT_at (s : TS) {c : Nat} (h : c < s.m) : (callsT s)[c]? = some (fixK s.n (s.C c)) := by simp [callsT, h]
theorem callsT_mem (s : TS) {x : Kall} (h : x ∈ callsT s) : ∃ c, c < s.m ∧ x = fixK s.n (s.C c) := by
  simp only [callsT, List.mem_map, List.mem_range] at h
  obtain ⟨c, h1, h2⟩ := h
  exact ⟨c, h1, h2.symm⟩
theorem callsT_in (s : TS) {c : Nat} (h : c < s.m) : fixK s.n (s.C c) ∈ callsT s := by
  simp only [callsT, List.mem_map, List.mem_range]
  exact ⟨c, h, rfl⟩

theorem filter_one {α : Type} {p : α → Bool} : ∀ {L : List α}, (L.filter p).length = 1 → ∀ {i j : Nat} {a b : α}, L[i]? = some a → L[j]? = some b → p a = true → p b = true → i = j
  | [], _, i, _, a, _, hi, _, _, _ => by simp at hi
  | x :: L, h, i, j, a, b, hi, hj, ha, hb => by
    by_cases hx : p x = true
    · rw [List.filter_cons_of_pos hx, List.length_cons] at h
      have h0 : L.filter p = [] := List.eq_nil_of_length_eq_zero (by omega)
      have hno : ∀ y ∈ L, ¬ p y = true := List.filter_eq_nil_iff.1 h0
      cases i with
      | zero =>
        cases j with
        | zero => rfl
        | succ j => exact absurd hb (hno b (List.mem_of_getElem? (by simpa using hj)))
      | succ i => exact absurd ha (hno a (List.mem_of_getElem? (by simpa using hi)))
    · rw [List.filter_cons_of_neg hx] at h
      cases i with
      | zero => simp at hi; subst hi; exact absurd ha hx
      | succ i =>
        cases j with
        | zero => simp at hj; subst hj; exact absurd hb hx
        | succ j =>
          have := filter_one h (by simpa using hi) (by simpa using hj) ha hb
          omega

theorem filter_two {α : Type} {p : α → Bool} : ∀ {L : List α}, 2 ≤ (L.filter p).length → ∃ (i j : Nat) (a b : α), i < j ∧ L[i]? = some a ∧ L[j]? = some b ∧ p a = true ∧ p b = true
  | [], h => by simp at h
  | x :: L, h => by
    by_cases hx : p x = true
    · rw [List.filter_cons_of_pos hx, List.length_cons] at h
      have h0 : 0 < (L.filter p).length := by omega
      obtain ⟨b, hb⟩ := List.exists_mem_of_length_pos h0
      rw [List.mem_filter] at hb
      obtain ⟨j, hj⟩ := List.getElem?_of_mem hb.1
      exact ⟨0, j + 1, x, b, by omega, by simp, by simpa using hj, hx, hb.2⟩
    · rw [List.filter_cons_of_neg hx] at h
      obtain ⟨i, j, a, b, h1, h2, h3, h4, h5⟩ := filter_two h
      exact ⟨i + 1, j + 1, a, b, by omega, by simpa using h2, by simpa using h3, h4, h5⟩

section
variable {sz : Nat} {s : TS}

/-- The value of a call is put by it alone. -/
def SolePut (s : TS) (c : Nat) : Prop := ∀ c', c' < s.m → (s.C c').put = true → (s.C c').value = (s.C c).value → c' = c

theorem sole_of {c : Nat} (hc : c < s.m) (hp : (s.C c).put = true) (h : (putsS (callsT s) (s.C c).value).length = 1) : SolePut s c := by
  intro c' hc' hp' hv
  refine filter_one h (callsT_at s hc') (callsT_at s hc) ?_ ?_
  · simp [noPut, fixK_put, fixK_value, hp', hv]
  · simp [noPut, fixK_put, fixK_value, hp]

theorem take_of {v : Int} {x : Kall} (h : x ∈ takesS (callsT s) v) : ∃ c, c < s.m ∧ x = fixK s.n (s.C c) ∧ (s.C c).put = false ∧ (s.C c).opn = false ∧ (s.C c).code = 0 ∧ (s.C c).value = v := by
  unfold takesS at h
  rw [List.mem_filter] at h
  obtain ⟨c, hc, rfl⟩ := callsT_mem s h.1
  have h2 := h.2
  simp only [noTake, doneB, fixK_put, fixK_opn, fixK_code, fixK_value, Bool.not_or, Bool.and_eq_true, Bool.not_eq_true', Bool.not_not, bne_eq_false_iff_eq, beq_iff_eq] at h2
  exact ⟨c, hc, rfl, h2.1.1, h2.1.2.1, h2.1.2.2, h2.2⟩

theorem gone_of (h : TInv sz s) {c k : Nat} {till : Int} (hs : SolePut s c) (hk : 2 ≤ s.cell k) (hp : s.pt k = c) (hh : k < s.hd) (ht : (s.tm k : Int) ≤ till) : goneS (callsT s) (s.C c).value till = true := by
  have hv := h.val k hk
  have htd := h.tdraw k hh
  rw [hp] at hv
  unfold goneS
  cases htk : takesS (callsT s) (s.C c).value with
  | nil =>
    simp only [List.any_eq_true]
    rcases h.tick k hh with h1 | h1 | ⟨t, h1, h2⟩ | ⟨h1, h2, h3, _⟩
    · omega
    · have := h.cellz k h1; omega
    · have h4 := h.hold4 t (by omega)
      have h5 := h.own t (by omega)
      rw [h2] at h4
      refine ⟨fixK s.n (s.C (s.tt k)), callsT_in s htd.1, ?_⟩
      rw [← h4.2.2] at h5
      simp only [openTake, fixK_put, fixK_opn, fixK_beg, htd.2.1, h5.2, Bool.not_false, Bool.true_and, decide_eq_true_eq]
      omega
    · exfalso
      have hm : fixK s.n (s.C (s.tt k)) ∈ takesS (callsT s) (s.C c).value := by
        unfold takesS
        rw [List.mem_filter]
        refine ⟨callsT_in s htd.1, ?_⟩
        have hval : (s.C (s.tt k)).value = (s.C c).value := by omega
        simp [noTake, doneB, fixK_put, fixK_opn, fixK_code, fixK_value, htd.2.1, h1, h2, hval]
      rw [htk] at hm
      cases hm
  | cons t0 r =>
    have hm : t0 ∈ takesS (callsT s) (s.C c).value := by rw [htk]; exact List.mem_cons_self ..
    obtain ⟨c0, hc0, rfl, q1, q2, q3, q4⟩ := take_of hm
    obtain ⟨k0, e1, e2, e3, e4, _⟩ := h.tdone c0 hc0 q1 q2 q3
    have hv0 := h.val k0 e3
    have hpd := h.pdraw k0 hv0.1
    have e5 : s.pt k0 = c := hs (s.pt k0) hpd.1 hpd.2.1 (by omega)
    have e6 : k0 = k := h.vinj k0 k e3 hk (by rw [e5, hp])
    subst e6
    simp only [fixK_beg, decide_eq_true_eq]
    rw [e2] at htd
    omega

theorem sure_of {p : Kall} (hp : p ∈ callsT s) (h : sureB (callsT s) p = true) : ∃ c, c < s.m ∧ p = fixK s.n (s.C c) ∧ (s.C c).put = true ∧ (s.C c).opn = false ∧ (s.C c).code = 0 ∧ SolePut s c := by
  obtain ⟨c, hc, rfl⟩ := callsT_mem s hp
  simp only [sureB, doneB, fixK_put, fixK_opn, fixK_code, fixK_value, Bool.and_eq_true, Bool.not_eq_true', beq_iff_eq, decide_eq_true_eq] at h
  exact ⟨c, hc, rfl, h.1.1, h.1.2.1, h.1.2.2, sole_of hc h.1.1 h.2⟩

theorem no_fresh (h : TInv sz s) (out : List Int) {x : Kall} (hx : x ∈ callsT s) : freshB (callsT s) out x = false := by
  rw [Bool.eq_false_iff]
  intro hf
  obtain ⟨c, hc, rfl⟩ := callsT_mem s hx
  simp only [freshB, doneB, fixK_put, fixK_opn, fixK_code, fixK_value, Bool.and_eq_true, Bool.not_eq_true', beq_iff_eq] at hf
  obtain ⟨⟨⟨h1, h2, h3⟩, _⟩, h4⟩ := hf
  obtain ⟨k, e1, e2, e3, e4, e5⟩ := h.tdone c hc h1 h2 h3
  have hv := h.val k e3
  have hpd := h.pdraw k hv.1
  have : (putsS (callsT s) (s.C c).value).any (fun p => decide (p.beg < (fixK s.n (s.C c)).fin)) = true := by
    rw [List.any_eq_true]
    refine ⟨fixK s.n (s.C (s.pt k)), ?_, ?_⟩
    · unfold putsS
      rw [List.mem_filter]
      refine ⟨callsT_in s hpd.1, ?_⟩
      have hval : (s.C (s.pt k)).value = (s.C c).value := by omega
      simp [noPut, fixK_put, fixK_value, hpd.2.1, hval]
    · rw [fixK_fin _ _ h2, fixK_beg]
      simpa using e5
  rw [this] at h4
  cases h4

theorem freshTo_nil (h : TInv sz s) : ∀ k, k ≤ (callsT s).length → freshTo (callsT s) k = []
  | 0, _ => rfl
  | k + 1, hk => by
    rw [freshTo, freshTo_nil h k (by omega), no_fresh h [] (by
      have : k < (callsT s).length := by omega
      simp [List.getD, this])]
    simp

theorem twice_nil (h : TInv sz s) : twiceS (callsT s) = [] := by
  unfold twiceS
  rw [List.filter_eq_nil_iff]
  intro v hv
  unfold valuesS at hv
  obtain ⟨x, hx, rfl⟩ := List.mem_map.1 hv
  rw [List.mem_filter] at hx
  obtain ⟨c, hc, rfl⟩ := callsT_mem s hx.1
  have h2 := hx.2
  simp only [soleB, fixK_put, fixK_value, Bool.and_eq_true, decide_eq_true_eq] at h2
  have hs := sole_of hc h2.1 h2.2
  rw [fixK_value]
  simp only [Bool.not_eq_true', decide_eq_false_iff_not, Int.not_lt, Int.not_le]
  rcases Nat.lt_or_ge (takesS (callsT s) (s.C c).value).length 2 with hlt | hge
  · omega
  · exfalso
    obtain ⟨i, j, a, b, hij, ha, hb, pa, pb⟩ := filter_two hge
    have ma : a ∈ takesS (callsT s) (s.C c).value := List.mem_filter.2 ⟨List.mem_of_getElem? ha, pa⟩
    have mb : b ∈ takesS (callsT s) (s.C c).value := List.mem_filter.2 ⟨List.mem_of_getElem? hb, pb⟩
    have hi : i < s.m := by have := (List.getElem?_eq_some_iff.1 ha).1; simpa [callsT] using this
    have hj : j < s.m := by have := (List.getElem?_eq_some_iff.1 hb).1; simpa [callsT] using this
    rw [callsT_at s hi] at ha
    rw [callsT_at s hj] at hb
    injection ha with ha
    injection hb with hb
    subst ha hb
    simp only [noTake, doneB, fixK_put, fixK_opn, fixK_code, fixK_value, Bool.not_or, Bool.and_eq_true, Bool.not_eq_true', Bool.not_not, bne_eq_false_iff_eq, beq_iff_eq] at pa pb
    obtain ⟨k1, a1, a2, a3, a4, _⟩ := h.tdone i hi pa.1.1 pa.1.2.1 pa.1.2.2
    obtain ⟨k2, b1, b2, b3, b4, _⟩ := h.tdone j hj pb.1.1 pb.1.2.1 pb.1.2.2
    have v1 := h.val k1 a3
    have v2 := h.val k2 b3
    have d1 := h.pdraw k1 v1.1
    have d2 := h.pdraw k2 v2.1
    have e1 := hs (s.pt k1) d1.1 d1.2.1 (by omega)
    have e2 := hs (s.pt k2) d2.1 d2.2.1 (by omega)
    have := h.vinj k1 k2 a3 b3 (by rw [e1, e2])
    subst this
    omega

theorem no_pass (h : TInv sz s) {a b : Kall} (ha : a ∈ callsT s) (hb : b ∈ callsT s) : rpairB (callsT s) a b = false := by
  rw [Bool.eq_false_iff]
  intro hf
  simp only [rpairB, Bool.and_eq_true] at hf
  obtain ⟨⟨sa, sb⟩, hp⟩ := hf
  obtain ⟨ca, la, rfl, a1, a2, a3, a4⟩ := sure_of ha sa
  obtain ⟨cb, lb, rfl, b1, b2, b3, b4⟩ := sure_of hb sb
  unfold pairB at hp
  rw [fixK_value] at hp
  cases htk : takesS (callsT s) (s.C cb).value with
  | nil => rw [htk] at hp; cases hp
  | cons t r =>
    rw [htk] at hp
    simp only [Bool.and_eq_true, decide_eq_true_eq, Bool.not_eq_true', fixK_value, fixK_beg, fixK_fin _ _ a2] at hp
    have hm : t ∈ takesS (callsT s) (s.C cb).value := by rw [htk]; exact List.mem_cons_self ..
    obtain ⟨c0, hc0, rfl, q1, q2, q3, q4⟩ := take_of hm
    obtain ⟨kb, e1, e2, e3, e4, _⟩ := h.tdone c0 hc0 q1 q2 q3
    have vb := h.val kb e3
    have db := h.pdraw kb vb.1
    have eb : s.pt kb = cb := b4 (s.pt kb) db.1 db.2.1 (by omega)
    obtain ⟨ka, f1, f2⟩ := h.pdone ca la a1 a2 a3
    have va := h.val ka f1
    have da := h.pdraw ka va.1
    have fa := h.pfin ka va.1 (by rw [f2]; exact a2)
    rw [f2] at fa
    rw [eb] at db
    have hlt : ka < kb := by
      rcases Nat.lt_or_ge ka kb with g | g
      · exact g
      · have := h.pmono kb ka g va.1
        omega
    have tf := h.tfin kb e1 (by rw [e2]; exact q2)
    rw [e2] at tf
    have tm := h.tmono ka kb (by omega) e1
    have hg := gone_of h (till := (fixK s.n (s.C c0)).fin) a4 f1 f2 (by omega) (by rw [fixK_fin _ _ q2]; omega)
    rw [hg] at hp
    cases hp.2

theorem no_deny (h : TInv sz s) {x : Kall} (hx : x ∈ callsT s) : rdenB (callsT s) x = false := by
  rw [Bool.eq_false_iff]
  intro hf
  simp only [rdenB, Bool.and_eq_true, List.any_eq_true] at hf
  obtain ⟨⟨p, hp, sp, th⟩, hask⟩ := hf
  obtain ⟨cx, lx, rfl⟩ := callsT_mem s hx
  obtain ⟨cp, lp, rfl, p1, p2, p3, p4⟩ := sure_of hp sp
  simp only [askB, fixK_put, fixK_opn, fixK_code, Bool.and_eq_true, Bool.not_eq_true', beq_iff_eq] at hask
  obtain ⟨⟨x1, x2⟩, x3⟩ := hask
  simp only [thereB, fixK_value, fixK_beg, fixK_fin _ _ p2, fixK_fin _ _ x2, Bool.and_eq_true, decide_eq_true_eq, Bool.not_eq_true'] at th
  obtain ⟨k, e1, e2, e3, e4⟩ := h.tblock cx lx x1 x2 x3
  obtain ⟨kp, f1, f2⟩ := h.pdone cp lp p1 p2 p3
  have vp := h.val kp f1
  have fp := h.pfin kp vp.1 (by rw [f2]; exact p2)
  rw [f2] at fp
  have hle := e4 kp vp.1 (by omega)
  have hne : kp ≠ k := by rintro rfl; omega
  have tf := h.tfin k e1 (by rw [e2]; exact x2)
  rw [e2] at tf
  have tm := h.tmono kp k hle e1
  have hg := gone_of h (till := (s.C cx).fin) p4 f1 f2 (by omega) (by omega)
  rw [hg] at th
  cases th.2

/-- Nothing wrong is told. -/
theorem tickets_right (h : TInv sz s) : wrongS (callsT s) = false := by
  have h1 : freshS (callsT s) = [] := freshTo_nil h _ (Nat.le_refl _)
  have h2 := twice_nil h
  have h3 : passedS (callsT s) = [] := by
    rw [← passed_same]
    unfold rpassedS
    rw [allG_flat _ _ _ (Nat.le_refl _), List.take_length, List.flatMap_eq_nil_iff]
    intro a ha
    rw [List.map_eq_nil_iff, List.filter_eq_nil_iff]
    intro b hb
    rw [no_pass h ha hb]
    simp
  have h4 : deniedS (callsT s) = [] := by
    rw [← denied_same]
    unfold rdeniedS
    rw [List.map_eq_nil_iff, List.filter_eq_nil_iff]
    intro x hx
    rw [no_deny h hx]
    simp
  unfold wrongS
  rw [h1, h2, h3, h4]
  rfl
end

end Go.Proofs.YtieglgahfeecbaaGreatDoor

namespace Go.Proofs.YtieglgahfeecbaaGreatDoor

/-- The k-th value that was put, by the call pt k, behind pm k notes; the k-th that was taken, by tt k, behind tm k. -/
structure FInv (s : TS) : Prop where
  cb : ∀ c, c < s.m → 0 ≤ (s.C c).beg ∧ (s.C c).beg < s.n
  pdraw : ∀ k, k < s.tl → s.pt k < s.m ∧ (s.C (s.pt k)).put = true ∧ (s.C (s.pt k)).beg < s.pm k
  pfin : ∀ k, k < s.tl → (s.C (s.pt k)).opn = false → (s.pm k : Int) ≤ (s.C (s.pt k)).fin
  tdraw : ∀ k, k < s.hd → s.tt k < s.m ∧ (s.C (s.tt k)).put = false ∧ (s.C (s.tt k)).beg < s.tm k
  tfin : ∀ k, k < s.hd → (s.C (s.tt k)).opn = false → (s.tm k : Int) ≤ (s.C (s.tt k)).fin
  pmono : ∀ k k', k ≤ k' → k' < s.tl → s.pm k ≤ s.pm k'
  tmono : ∀ k k', k ≤ k' → k' < s.hd → s.tm k ≤ s.tm k'
  hl : s.hd ≤ s.tl
  pinj : ∀ k k', k < s.tl → k' < s.tl → s.pt k = s.pt k' → k = k'
  tinj : ∀ k k', k < s.hd → k' < s.hd → s.tt k = s.tt k' → k = k'
  ptle : ∀ k, k < s.hd → s.pm k ≤ s.tm k
  pdone : ∀ c, c < s.m → (s.C c).put = true → (s.C c).opn = false → (s.C c).code = 0 → ∃ k, k < s.tl ∧ s.pt k = c
  tdone : ∀ c, c < s.m → (s.C c).put = false → (s.C c).opn = false → (s.C c).code = 0 → ∃ k, k < s.hd ∧ s.tt k = c
  tval : ∀ k, k < s.hd → (s.C (s.tt k)).opn = false → (s.C (s.tt k)).code = 0 ∧ (s.C (s.tt k)).value = (s.C (s.pt k)).value
  tblock : ∀ c, c < s.m → (s.C c).put = false → (s.C c).opn = false → (s.C c).code = 10 →
    ∃ k, k ≤ s.hd ∧ (∀ j, j < s.tl → (s.pm j : Int) ≤ (s.C c).beg → j < k) ∧ (∀ j, j < k → (s.tm j : Int) ≤ (s.C c).fin)

section
variable {s : TS}

theorem fgone (h : FInv s) {c k : Nat} {till : Int} (hs : SolePut s c) (hp : s.pt k = c) (hh : k < s.hd) (ht : (s.tm k : Int) ≤ till) : goneS (callsT s) (s.C c).value till = true := by
  have htd := h.tdraw k hh
  have hl := h.hl
  unfold goneS
  cases htk : takesS (callsT s) (s.C c).value with
  | nil =>
    simp only [List.any_eq_true]
    by_cases ho : (s.C (s.tt k)).opn = true
    · refine ⟨fixK s.n (s.C (s.tt k)), callsT_in s htd.1, ?_⟩
      simp only [openTake, fixK_put, fixK_opn, fixK_beg, htd.2.1, ho, Bool.not_false, Bool.true_and, decide_eq_true_eq]
      omega
    · exfalso
      simp only [Bool.not_eq_true] at ho
      obtain ⟨h2, h3⟩ := h.tval k hh ho
      have hm : fixK s.n (s.C (s.tt k)) ∈ takesS (callsT s) (s.C c).value := by
        unfold takesS
        rw [List.mem_filter]
        refine ⟨callsT_in s htd.1, ?_⟩
        have hval : (s.C (s.tt k)).value = (s.C c).value := by rw [h3, hp]
        simp [noTake, doneB, fixK_put, fixK_opn, fixK_code, fixK_value, htd.2.1, ho, h2, hval]
      rw [htk] at hm
      cases hm
  | cons t0 r =>
    have hm : t0 ∈ takesS (callsT s) (s.C c).value := by rw [htk]; exact List.mem_cons_self ..
    obtain ⟨c0, hc0, rfl, q1, q2, q3, q4⟩ := take_of hm
    obtain ⟨k0, e1, e2⟩ := h.tdone c0 hc0 q1 q2 q3
    have hv0 := h.tval k0 e1 (by rw [e2]; exact q2)
    have hpd := h.pdraw k0 (by omega)
    have e5 : s.pt k0 = c := hs (s.pt k0) hpd.1 hpd.2.1 (by rw [← hv0.2, e2, q4])
    have e6 : k0 = k := h.pinj k0 k (by omega) (by omega) (by rw [e5, hp])
    subst e6
    simp only [fixK_beg, decide_eq_true_eq]
    rw [e2] at htd
    omega

theorem fno_fresh (h : FInv s) (out : List Int) {x : Kall} (hx : x ∈ callsT s) : freshB (callsT s) out x = false := by
  rw [Bool.eq_false_iff]
  intro hf
  obtain ⟨c, hc, rfl⟩ := callsT_mem s hx
  simp only [freshB, doneB, fixK_put, fixK_opn, fixK_code, fixK_value, Bool.and_eq_true, Bool.not_eq_true', beq_iff_eq] at hf
  obtain ⟨⟨⟨h1, h2, h3⟩, _⟩, h4⟩ := hf
  obtain ⟨k, e1, e2⟩ := h.tdone c hc h1 h2 h3
  have hl := h.hl
  have hv := h.tval k e1 (by rw [e2]; exact h2)
  have hpd := h.pdraw k (by omega)
  have htf := h.tfin k e1 (by rw [e2]; exact h2)
  have hle := h.ptle k e1
  rw [e2] at hv htf
  have : (putsS (callsT s) (s.C c).value).any (fun p => decide (p.beg < (fixK s.n (s.C c)).fin)) = true := by
    rw [List.any_eq_true]
    refine ⟨fixK s.n (s.C (s.pt k)), ?_, ?_⟩
    · unfold putsS
      rw [List.mem_filter]
      refine ⟨callsT_in s hpd.1, ?_⟩
      simp [noPut, fixK_put, fixK_value, hpd.2.1, hv.2]
    · rw [fixK_fin _ _ h2, fixK_beg]
      simp only [decide_eq_true_eq]
      omega
  rw [this] at h4
  cases h4

theorem ffreshTo_nil (h : FInv s) : ∀ k, k ≤ (callsT s).length → freshTo (callsT s) k = []
  | 0, _ => rfl
  | k + 1, hk => by
    rw [freshTo, ffreshTo_nil h k (by omega), fno_fresh h [] (by
      have : k < (callsT s).length := by omega
      simp [List.getD, this])]
    simp

theorem ftwice_nil (h : FInv s) : twiceS (callsT s) = [] := by
  unfold twiceS
  rw [List.filter_eq_nil_iff]
  intro v hv
  unfold valuesS at hv
  obtain ⟨x, hx, rfl⟩ := List.mem_map.1 hv
  rw [List.mem_filter] at hx
  obtain ⟨c, hc, rfl⟩ := callsT_mem s hx.1
  have h2 := hx.2
  simp only [soleB, fixK_put, fixK_value, Bool.and_eq_true, decide_eq_true_eq] at h2
  have hs := sole_of hc h2.1 h2.2
  have hl := h.hl
  rw [fixK_value]
  simp only [Bool.not_eq_true', decide_eq_false_iff_not, Int.not_lt, Int.not_le]
  rcases Nat.lt_or_ge (takesS (callsT s) (s.C c).value).length 2 with hlt | hge
  · omega
  · exfalso
    obtain ⟨i, j, a, b, hij, ha, hb, pa, pb⟩ := filter_two hge
    have hi : i < s.m := by have := (List.getElem?_eq_some_iff.1 ha).1; simpa [callsT] using this
    have hj : j < s.m := by have := (List.getElem?_eq_some_iff.1 hb).1; simpa [callsT] using this
    rw [callsT_at s hi] at ha
    rw [callsT_at s hj] at hb
    injection ha with ha
    injection hb with hb
    subst ha hb
    simp only [noTake, doneB, fixK_put, fixK_opn, fixK_code, fixK_value, Bool.not_or, Bool.and_eq_true, Bool.not_eq_true', Bool.not_not, bne_eq_false_iff_eq, beq_iff_eq] at pa pb
    obtain ⟨k1, a1, a2⟩ := h.tdone i hi pa.1.1 pa.1.2.1 pa.1.2.2
    obtain ⟨k2, b1, b2⟩ := h.tdone j hj pb.1.1 pb.1.2.1 pb.1.2.2
    have v1 := h.tval k1 a1 (by rw [a2]; exact pa.1.2.1)
    have v2 := h.tval k2 b1 (by rw [b2]; exact pb.1.2.1)
    rw [a2] at v1
    rw [b2] at v2
    have d1 := h.pdraw k1 (by omega)
    have d2 := h.pdraw k2 (by omega)
    have e1 := hs (s.pt k1) d1.1 d1.2.1 (by rw [← v1.2]; exact pa.2)
    have e2 := hs (s.pt k2) d2.1 d2.2.1 (by rw [← v2.2]; exact pb.2)
    have := h.pinj k1 k2 (by omega) (by omega) (by rw [e1, e2])
    subst this
    omega

theorem fno_pass (h : FInv s) {a b : Kall} (ha : a ∈ callsT s) (hb : b ∈ callsT s) : rpairB (callsT s) a b = false := by
  rw [Bool.eq_false_iff]
  intro hf
  simp only [rpairB, Bool.and_eq_true] at hf
  obtain ⟨⟨sa, sb⟩, hp⟩ := hf
  obtain ⟨ca, la, rfl, a1, a2, a3, a4⟩ := sure_of ha sa
  obtain ⟨cb, lb, rfl, b1, b2, b3, b4⟩ := sure_of hb sb
  unfold pairB at hp
  rw [fixK_value] at hp
  cases htk : takesS (callsT s) (s.C cb).value with
  | nil => rw [htk] at hp; cases hp
  | cons t r =>
    rw [htk] at hp
    simp only [Bool.and_eq_true, decide_eq_true_eq, Bool.not_eq_true', fixK_value, fixK_beg, fixK_fin _ _ a2] at hp
    have hm : t ∈ takesS (callsT s) (s.C cb).value := by rw [htk]; exact List.mem_cons_self ..
    obtain ⟨c0, hc0, rfl, q1, q2, q3, q4⟩ := take_of hm
    obtain ⟨kb, e1, e2⟩ := h.tdone c0 hc0 q1 q2 q3
    have hl := h.hl
    have vb := h.tval kb e1 (by rw [e2]; exact q2)
    rw [e2] at vb
    have db := h.pdraw kb (by omega)
    have eb : s.pt kb = cb := b4 (s.pt kb) db.1 db.2.1 (by rw [← vb.2, q4])
    obtain ⟨ka, f1, f2⟩ := h.pdone ca la a1 a2 a3
    have fa := h.pfin ka f1 (by rw [f2]; exact a2)
    rw [f2] at fa
    rw [eb] at db
    have hlt : ka < kb := by
      rcases Nat.lt_or_ge ka kb with g | g
      · exact g
      · have := h.pmono kb ka g f1
        omega
    have tf := h.tfin kb e1 (by rw [e2]; exact q2)
    rw [e2] at tf
    have tm := h.tmono ka kb (by omega) e1
    have hg := fgone h (till := (fixK s.n (s.C c0)).fin) a4 f2 (by omega) (by rw [fixK_fin _ _ q2]; omega)
    rw [hg] at hp
    cases hp.2

theorem fno_deny (h : FInv s) {x : Kall} (hx : x ∈ callsT s) : rdenB (callsT s) x = false := by
  rw [Bool.eq_false_iff]
  intro hf
  simp only [rdenB, Bool.and_eq_true, List.any_eq_true] at hf
  obtain ⟨⟨p, hp, sp, th⟩, hask⟩ := hf
  obtain ⟨cx, lx, rfl⟩ := callsT_mem s hx
  obtain ⟨cp, lp, rfl, p1, p2, p3, p4⟩ := sure_of hp sp
  simp only [askB, fixK_put, fixK_opn, fixK_code, Bool.and_eq_true, Bool.not_eq_true', beq_iff_eq] at hask
  obtain ⟨⟨x1, x2⟩, x3⟩ := hask
  simp only [thereB, fixK_value, fixK_beg, fixK_fin _ _ p2, fixK_fin _ _ x2, Bool.and_eq_true, decide_eq_true_eq, Bool.not_eq_true'] at th
  obtain ⟨k, e1, e2, e3⟩ := h.tblock cx lx x1 x2 x3
  obtain ⟨kp, f1, f2⟩ := h.pdone cp lp p1 p2 p3
  have fp := h.pfin kp f1 (by rw [f2]; exact p2)
  rw [f2] at fp
  have hlt := e2 kp f1 (by omega)
  have hg := fgone h (till := (s.C cx).fin) p4 f2 (by omega) (e3 kp hlt)
  rw [hg] at th
  cases th.2

/-- Nothing wrong is told. -/
theorem finv_right (h : FInv s) : wrongS (callsT s) = false := by
  have h1 : freshS (callsT s) = [] := ffreshTo_nil h _ (Nat.le_refl _)
  have h2 := ftwice_nil h
  have h3 : passedS (callsT s) = [] := by
    rw [← passed_same]
    unfold rpassedS
    rw [allG_flat _ _ _ (Nat.le_refl _), List.take_length, List.flatMap_eq_nil_iff]
    intro a ha
    rw [List.map_eq_nil_iff, List.filter_eq_nil_iff]
    intro b hb
    rw [fno_pass h ha hb]
    simp
  have h4 : deniedS (callsT s) = [] := by
    rw [← denied_same]
    unfold rdeniedS
    rw [List.map_eq_nil_iff, List.filter_eq_nil_iff]
    intro x hx
    rw [fno_deny h hx]
    simp
  unfold wrongS
  rw [h1, h2, h3, h4]
  rfl
end

end Go.Proofs.YtieglgahfeecbaaGreatDoor

namespace Go.Proofs.YtieglgahfeecbaaGreatDoor
open Go.RowKit Go.Sort

/-- A line of a history. -/
structure NtP where
  (kind thread seq : Int)
  (req : ReqP)
  (res : Resr)
def ReqP.none : ReqP := ⟨0, 0, 0, false, []⟩
def NtP.none : NtP := ⟨0, 0, 0, ReqP.none, Resr.none⟩

/-- What is known of a thread: is it in a call, of which number; the greatest one that it had. -/
structure KnP where
  (on : Bool)
  (seq last : Int)
def KnP.none : KnP := ⟨false, 0, 0⟩
def followsB (x : KnP) (n : NtP) : Bool :=
  if n.kind = 1 then !x.on && (decide (n.seq = 0) || decide (x.last < n.seq)) && fitsQ n.req
  else if n.kind = 2 ∨ n.kind = 3 then x.on && decide (n.seq = x.seq) else false
def stepK (x : KnP) (n : NtP) : KnP :=
  if n.kind = 1 then ⟨true, n.seq, max x.last n.seq⟩ else if n.kind = 3 then ⟨false, x.seq, x.last⟩ else x
def noteOk (l : List KnP) (n : NtP) : Bool :=
  decide (inL l.length n.thread) && inB n.seq 0 1048575 && followsB (l.getD n.thread.toNat KnP.none) n
def nextK (l : List KnP) (n : NtP) : List KnP := l.set n.thread.toNat (stepK (l.getD n.thread.toNat KnP.none) n)
/-- Behind the first k notes, if they may be. -/
def knowK (threads : Nat) (ns : List NtP) : Nat → Option (List KnP)
  | 0 => some (List.replicate threads KnP.none)
  | k + 1 => match knowK threads ns k with
    | some l => if noteOk l (ns.getD k NtP.none) = true then some (nextK l (ns.getD k NtP.none)) else .none
    | .none => .none
def callsK (ns : List NtP) : Nat → Nat
  | 0 => 0
  | k + 1 => callsK ns k + (if (ns.getD k NtP.none).kind = 1 then 1 else 0)
def checkS (c : Cfg) (ns : List NtP) : Int :=
  if chkB c = false then 1
  else match knowK c.threads.toNat ns ns.length with
    | .none => 3
    | some _ => if 8 < callsK ns ns.length then 4 else 0

/-- A thread's call, on the way. -/
structure OpP where
  (on applied : Bool)
  (seq : Int)
  (req : ReqP)
def OpP.none : OpP := ⟨false, false, 0, ReqP.none⟩
/-- How far a search has come. -/
structure StP where
  (at_ : Nat)
  (rec_ : List Int)
  (l : List OpP)
def StP.with_ (s : StP) (t : Nat) (x : OpP) : StP := ⟨s.at_, s.rec_, s.l.set t x⟩

def noneB (n : NtP) : Bool := decide (n.kind = 3) && (decide (n.res.code = 6) || decide (n.res.code = 7))
def sameR (a b : Resr) : Bool := decide (a.seq = b.seq) && decide (a.case_ = b.case_) && decide (a.code = b.code) && decide (a.value = b.value)
def tellsB (c : Cfg) (rec_ : List Int) (n : NtP) : Bool :=
  let r := rrI (doneO c rec_ n.thread)
  decide (r.seq = n.seq) && (decide (n.kind = 2) || sameR r n.res)

/-- The states behind the effects of calls from thread k on. -/
def effK (c : Cfg) (s : StP) : Nat → List StP
  | 0 => []
  | k + 1 =>
    let y := s.l.getD k OpP.none
    effK c s k ++ (if y.on = true ∧ y.applied = false ∧ 0 < y.seq then [⟨s.at_, applyO c s.rec_ k y.seq y.req, s.l.set k ⟨y.on, true, y.seq, y.req⟩⟩] else [])
/-- The states that may come behind one. -/
def waysS (c : Cfg) (ns : List NtP) (s : StP) : List StP :=
  let n := ns.getD s.at_ NtP.none
  let x := s.l.getD n.thread.toNat OpP.none
  if n.kind = 1 then [⟨s.at_ + 1, s.rec_, s.l.set n.thread.toNat ⟨true, false, n.seq, n.req⟩⟩]
  else if x.applied = true ∧ tellsB c s.rec_ n = true then [⟨s.at_ + 1, s.rec_, s.l.set n.thread.toNat ⟨decide (n.kind = 2), true, x.seq, x.req⟩⟩]
  else (if noneB n = true ∧ x.applied = false then [⟨s.at_ + 1, s.rec_, s.l.set n.thread.toNat ⟨false, false, x.seq, ReqP.none⟩⟩] else []) ++ effK c s s.l.length

/-- Can the notes from a state on be explained? -/
inductive Expl (c : Cfg) (ns : List NtP) : StP → Prop
  | done (s : StP) : s.at_ = ns.length → Expl c ns s
  | way (s s' : StP) : s.at_ < ns.length → s' ∈ waysS c ns s → Expl c ns s' → Expl c ns s
def legalB (c : Cfg) (ns : List NtP) : Prop := Expl c ns ⟨0, startO c, List.replicate c.threads.toNat OpP.none⟩

end Go.Proofs.YtieglgahfeecbaaGreatDoor
