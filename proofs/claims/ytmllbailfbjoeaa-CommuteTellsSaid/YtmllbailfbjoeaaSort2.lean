/- Sorting, in plain lists: exchanges, rotations, what does not fall, and the symmetric merge. -/
import Derived.Test.YtmllbailfbjoeaaSort1
namespace Go.Proofs.Ytmllbailfbjoeaa

theorem exch_at (xs : List Int) (i j x : Nat) (hi : i < xs.length) (hj : j < xs.length) : (exch xs i j).getD x 0 = if x = j then xs.getD i 0 else if x = i then xs.getD j 0 else xs.getD x 0 := by
  simp only [List.getD, exch_get xs i j x hi hj]
  split
  · rfl
  · split <;> rfl

theorem exch_perm (xs : List Int) (i j : Nat) (hi : i < xs.length) (hj : j < xs.length) : (exch xs i j).Perm xs := by
  unfold exch
  have e1 : xs.getD j 0 = xs[j] := by simp [List.getD, hj]
  have e2 : xs.getD i 0 = xs[i] := by simp [List.getD, hi]
  rw [e1, e2]
  exact List.set_set_perm hi hj

theorem rot_perm (xs : List Int) (a m b : Nat) (h1 : a ≤ m) (h2 : m ≤ b) (h3 : b ≤ xs.length) : (rot xs a m b).Perm xs := by
  have e : rot xs a m b = xs.take a ++ (((xs.drop m).take (b - m)) ++ ((xs.drop a).take (m - a)) ++ xs.drop b) := by
    apply List.ext_getElem?
    intro x
    rw [rot_get xs a m b x h1 h2 h3]
    simp only [List.getElem?_append, List.length_take, List.length_drop, List.length_append, List.getElem?_take, List.getElem?_drop]
    repeat' split
    all_goals first | rfl | omega | (congr 1; omega)
  have e' : xs = xs.take a ++ (((xs.drop a).take (m - a)) ++ ((xs.drop m).take (b - m)) ++ xs.drop b) := by
    apply List.ext_getElem?
    intro x
    simp only [List.getElem?_append, List.length_take, List.length_drop, List.length_append, List.getElem?_take, List.getElem?_drop]
    repeat' split
    all_goals first | rfl | omega | (congr 1; omega)
  rw [e]
  conv => rhs; rw [e']
  exact List.Perm.append_left _ (List.Perm.append_right _ List.perm_append_comm)

/-- ys is xs with the places a..b in another order. -/
structure Mix (a b : Nat) (xs ys : List Int) : Prop where
  perm : ys.Perm xs
  out : ∀ i, i < a ∨ b ≤ i → ys.getD i 0 = xs.getD i 0
  inn : ∀ i, a ≤ i → i < b → ∃ j, a ≤ j ∧ j < b ∧ ys.getD i 0 = xs.getD j 0

theorem Mix.len {a b : Nat} {xs ys : List Int} (h : Mix a b xs ys) : ys.length = xs.length := h.perm.length_eq
theorem Mix.refl (a b : Nat) (xs : List Int) : Mix a b xs xs := ⟨.refl _, fun _ _ => rfl, fun i h1 h2 => ⟨i, h1, h2, rfl⟩⟩
theorem Mix.trans {a b : Nat} {xs ys zs : List Int} (h : Mix a b xs ys) (k : Mix a b ys zs) : Mix a b xs zs :=
  ⟨k.perm.trans h.perm, fun i hi => (k.out i hi).trans (h.out i hi), fun i h1 h2 => by
    obtain ⟨j, j1, j2, e⟩ := k.inn i h1 h2
    obtain ⟨l, l1, l2, e'⟩ := h.inn j j1 j2
    exact ⟨l, l1, l2, e.trans e'⟩⟩
theorem Mix.wide {a b a' b' : Nat} {xs ys : List Int} (h : Mix a b xs ys) (h1 : a' ≤ a) (h2 : b ≤ b') : Mix a' b' xs ys :=
  ⟨h.perm, fun i hi => h.out i (by omega), fun i i1 i2 => by
    by_cases hi : a ≤ i ∧ i < b
    · obtain ⟨j, j1, j2, e⟩ := h.inn i hi.1 hi.2
      exact ⟨j, by omega, by omega, e⟩
    · exact ⟨i, i1, i2, h.out i (by omega)⟩⟩
theorem Mix.exch {a b : Nat} {xs : List Int} (i j : Nat) (hi : a ≤ i ∧ i < b) (hj : a ≤ j ∧ j < b) (hb : b ≤ xs.length) : Mix a b xs (exch xs i j) := by
  refine ⟨exch_perm xs i j (by omega) (by omega), fun x hx => ?_, fun x h1 h2 => ?_⟩
  · rw [exch_at xs i j x (by omega) (by omega), if_neg (by omega), if_neg (by omega)]
  · rw [exch_at xs i j x (by omega) (by omega)]
    split
    · exact ⟨i, hi.1, hi.2, rfl⟩
    · split
      · exact ⟨j, hj.1, hj.2, rfl⟩
      · exact ⟨x, h1, h2, rfl⟩
theorem rot_at (xs : List Int) (a m b x : Nat) (h1 : a ≤ m) (h2 : m ≤ b) (h3 : b ≤ xs.length) : (rot xs a m b).getD x 0 = if a ≤ x ∧ x < a + (b - m) then xs.getD (m + (x - a)) 0 else if a + (b - m) ≤ x ∧ x < b then xs.getD (x - (b - m)) 0 else xs.getD x 0 := by
  simp only [List.getD, rot_get xs a m b x h1 h2 h3]
  split
  · rfl
  · split <;> rfl
theorem Mix.rot {xs : List Int} (a m b : Nat) (h1 : a ≤ m) (h2 : m ≤ b) (h3 : b ≤ xs.length) : Mix a b xs (rot xs a m b) := by
  refine ⟨rot_perm xs a m b h1 h2 h3, fun x hx => ?_, fun x i1 i2 => ?_⟩
  · rw [rot_at xs a m b x h1 h2 h3, if_neg (by omega), if_neg (by omega)]
  · rw [rot_at xs a m b x h1 h2 h3]
    split
    · exact ⟨m + (x - a), by omega, by omega, rfl⟩
    · split
      · exact ⟨x - (b - m), by omega, by omega, rfl⟩
      · exact ⟨x, i1, i2, rfl⟩

/-- 'less' as a sort wants it. -/
structure Less (lt : Int → Int → Bool) : Prop where
  asymm : ∀ x y, lt x y = true → lt y x = false
  trans : ∀ x y z, lt y x = false → lt z y = false → lt z x = false

/-- The places a..b do not fall. -/
def Rises (lt : Int → Int → Bool) (a b : Nat) (xs : List Int) : Prop := ∀ i j, a ≤ i → i < j → j < b → lt (xs.getD j 0) (xs.getD i 0) = false

/-- All but the one at j, which may belong further down. -/
def RisesBut (lt : Int → Int → Bool) (a i j : Nat) (xs : List Int) : Prop := ∀ p q, a ≤ p → p < q → q ≤ i → q ≠ j → lt (xs.getD q 0) (xs.getD p 0) = false

theorem rises_but_start {lt : Int → Int → Bool} {a i : Nat} {xs : List Int} (h : Rises lt a i xs) : RisesBut lt a i i xs :=
  fun p q h1 h2 h3 h4 => h p q h1 h2 (by omega)

theorem rises_but_step {lt : Int → Int → Bool} (hl : Less lt) {a i j : Nat} {xs : List Int} (h : RisesBut lt a i j xs) (ha : a < j) (hj : j ≤ i) (hi : i < xs.length) (hlt : lt (xs.getD j 0) (xs.getD (j - 1) 0) = true) :
    RisesBut lt a i (j - 1) (exch xs j (j - 1)) := by
  intro p q h1 h2 h3 h4
  rw [exch_at xs j (j - 1) q (by omega) (by omega), exch_at xs j (j - 1) p (by omega) (by omega)]
  rw [if_neg h4]
  by_cases hq : q = j
  · subst hq
    rw [if_pos rfl]
    by_cases hp : p = q - 1
    · subst hp; rw [if_pos rfl]; exact hl.asymm _ _ hlt
    · rw [if_neg hp, if_neg (by omega)]; exact h p (q - 1) h1 (by omega) (by omega) (by omega)
  · rw [if_neg hq]
    by_cases hp : p = j - 1
    · subst hp; rw [if_pos rfl]; exact h j q (by omega) (by omega) h3 hq
    · rw [if_neg hp]
      by_cases hp2 : p = j
      · subst hp2; rw [if_pos rfl]; exact h (p - 1) q (by omega) (by omega) h3 hq
      · rw [if_neg hp2]; exact h p q h1 h2 h3 hq

theorem rises_but_end {lt : Int → Int → Bool} (hl : Less lt) {a i j : Nat} {xs : List Int} (h : RisesBut lt a i j xs) (ha : a ≤ j) (hj : j ≤ i) (he : j = a ∨ lt (xs.getD j 0) (xs.getD (j - 1) 0) = false) : Rises lt a (i + 1) xs := by
  intro p q h1 h2 h3
  by_cases hq : q = j
  · subst hq
    rcases he with he | he
    · omega
    · by_cases hp : p = q - 1
      · subst hp; exact he
      · exact hl.trans _ _ _ (h p (q - 1) h1 (by omega) (by omega) (by omega)) he
  · exact h p q h1 h2 (by omega) hq

theorem Rises.le {lt : Int → Int → Bool} (hl : Less lt) {a b : Nat} {xs : List Int} (h : Rises lt a b xs) {i j : Nat} (h1 : a ≤ i) (h2 : i ≤ j) (h3 : j < b) : lt (xs.getD j 0) (xs.getD i 0) = false := by
  by_cases e : i = j
  · subst e
    cases hc : lt (xs.getD i 0) (xs.getD i 0) with
    | false => rfl
    | true => have := hl.asymm _ _ hc; rw [hc] at this; cases this
  · exact h i j h1 (by omega) h3

/-- Behind the rotation: two halves, each of two pieces that do not fall, and nothing of the second half is less than anything of the first. -/
theorem sym_split {lt : Int → Int → Bool} (hl : Less lt) {a m b mid s e : Nat} {xs : List Int} (h1 : Rises lt a m xs) (h2 : Rises lt m b xs) (hb : b ≤ xs.length)
    (ha : a ≤ s) (hs : s ≤ m) (hme : m ≤ e) (heb : e ≤ b) (hmid : e + s = mid + m)
    (L : s = a ∨ e = b ∨ lt (xs.getD e 0) (xs.getD (s - 1) 0) = false) (R : s = m ∨ e = m ∨ lt (xs.getD (e - 1) 0) (xs.getD s 0) = true) :
    Rises lt a s (rot xs s m e) ∧ Rises lt s mid (rot xs s m e) ∧ Rises lt mid e (rot xs s m e) ∧ Rises lt e b (rot xs s m e) ∧
      ∀ p q, a ≤ p → p < mid → mid ≤ q → q < b → lt ((rot xs s m e).getD q 0) ((rot xs s m e).getD p 0) = false := by
  have hr := fun x => rot_at xs s m e x hs hme (by omega)
  refine ⟨fun i j i1 i2 i3 => ?_, fun i j i1 i2 i3 => ?_, fun i j i1 i2 i3 => ?_, fun i j i1 i2 i3 => ?_, fun p q p1 p2 q1 q2 => ?_⟩
  · rw [hr i, hr j, if_neg (by omega), if_neg (by omega), if_neg (by omega), if_neg (by omega)]
    exact h1 i j i1 i2 (by omega)
  · rw [hr i, hr j, if_pos (by omega), if_pos (by omega)]
    exact h2 _ _ (by omega) (by omega) (by omega)
  · rw [hr i, hr j, if_neg (by omega), if_pos (by omega), if_neg (by omega), if_pos (by omega)]
    exact h1 _ _ (by omega) (by omega) (by omega)
  · rw [hr i, hr j, if_neg (by omega), if_neg (by omega), if_neg (by omega), if_neg (by omega)]
    exact h2 i j (by omega) i2 i3
  · rw [hr p, hr q, if_neg (show ¬ (s ≤ q ∧ q < s + (e - m)) by omega)]
    by_cases hp : s ≤ p ∧ p < s + (e - m)
    · rw [if_pos hp]
      by_cases hq : s + (e - m) ≤ q ∧ q < e
      · rw [if_pos hq]
        rcases R with R | R | R
        · omega
        · omega
        · have x1 := h2.le hl (i := m + (p - s)) (j := e - 1) (by omega) (by omega) (by omega)
          have x2 := h1.le hl (i := s) (j := q - (e - m)) (by omega) (by omega) (by omega)
          exact hl.trans _ _ _ (hl.trans _ _ _ x1 (hl.asymm _ _ R)) x2
      · rw [if_neg hq]
        exact h2 _ _ (by omega) (by omega) (by omega)
    · rw [if_neg hp, if_neg (show ¬ (s + (e - m) ≤ p ∧ p < e) by omega)]
      by_cases hq : s + (e - m) ≤ q ∧ q < e
      · rw [if_pos hq]
        exact h1 _ _ (by omega) (by omega) (by omega)
      · rw [if_neg hq]
        rcases L with L | L | L
        · omega
        · omega
        · have x1 := h1.le hl (i := p) (j := s - 1) (by omega) (by omega) (by omega)
          have x2 := h2.le hl (i := e) (j := q) (by omega) (by omega) (by omega)
          exact hl.trans _ _ _ (hl.trans _ _ _ x1 L) x2

/-- Two halves that do not fall, nothing of the second less than anything of the first. -/
theorem rises_join {lt : Int → Int → Bool} {a mid b : Nat} {xs : List Int} (h1 : Rises lt a mid xs) (h2 : Rises lt mid b xs) (hc : ∀ p q, a ≤ p → p < mid → mid ≤ q → q < b → lt (xs.getD q 0) (xs.getD p 0) = false) : Rises lt a b xs := by
  intro i j i1 i2 i3
  by_cases hj : j < mid
  · exact h1 i j i1 i2 hj
  · by_cases hi : i < mid
    · exact hc i j i1 hi (by omega) i3
    · exact h2 i j (by omega) i2 i3

theorem Rises.keep {lt : Int → Int → Bool} {a b : Nat} {xs ys : List Int} (h : Rises lt a b xs) (he : ∀ i, a ≤ i → i < b → ys.getD i 0 = xs.getD i 0) : Rises lt a b ys := by
  intro i j i1 i2 i3
  rw [he i i1 (by omega), he j (by omega) i3]
  exact h i j i1 i2 i3
theorem cross_mix {lt : Int → Int → Bool} {a mid b : Nat} {xs ys : List Int} (hc : ∀ p q, a ≤ p → p < mid → mid ≤ q → q < b → lt (xs.getD q 0) (xs.getD p 0) = false)
    (h : Mix a mid xs ys) : ∀ p q, a ≤ p → p < mid → mid ≤ q → q < b → lt (ys.getD q 0) (ys.getD p 0) = false := by
  intro p q p1 p2 q1 q2
  obtain ⟨j, j1, j2, e⟩ := h.inn p p1 p2
  rw [e, h.out q (by omega)]
  exact hc j q j1 j2 q1 q2
theorem cross_mix' {lt : Int → Int → Bool} {a mid b : Nat} {xs ys : List Int} (hc : ∀ p q, a ≤ p → p < mid → mid ≤ q → q < b → lt (xs.getD q 0) (xs.getD p 0) = false)
    (h : Mix mid b xs ys) : ∀ p q, a ≤ p → p < mid → mid ≤ q → q < b → lt (ys.getD q 0) (ys.getD p 0) = false := by
  intro p q p1 p2 q1 q2
  obtain ⟨j, j1, j2, e⟩ := h.inn q q1 q2
  rw [e, h.out p (by omega)]
  exact hc p j p1 p2 j1 j2

/-- One that moves up: the places but the one at k do not fall; those behind it up to i are less, from i on not. -/
structure Moves (lt : Int → Int → Bool) (a i b k : Nat) (ys : List Int) : Prop where
  rest : ∀ p q, a ≤ p → p < q → q < b → p ≠ k → lt (ys.getD q 0) (ys.getD p 0) = false
  low : ∀ q, k < q → q < i → lt (ys.getD q 0) (ys.getD k 0) = true
  high : ∀ q, i ≤ q → q < b → lt (ys.getD q 0) (ys.getD k 0) = false

theorem Moves.step {lt : Int → Int → Bool} (hl : Less lt) {a i b k : Nat} {ys : List Int} (h : Moves lt a i b k ys) (hk : a ≤ k) (hki : k + 1 < i) (hib : i ≤ b) (hb : b ≤ ys.length) : Moves lt a i b (k + 1) (exch ys k (k + 1)) := by
  have hx := fun x => exch_at ys k (k + 1) x (by omega) (by omega)
  refine ⟨fun p q p1 p2 p3 p4 => ?_, fun q q1 q2 => ?_, fun q q1 q2 => ?_⟩
  · rw [hx p, hx q, if_neg p4]
    by_cases hp : p = k
    · subst hp
      rw [if_pos rfl]
      by_cases hq : q = p + 1
      · subst hq; rw [if_pos rfl]; exact hl.asymm _ _ (h.low (p + 1) (by omega) hki)
      · rw [if_neg hq, if_neg (by omega)]; exact h.rest (p + 1) q (by omega) (by omega) p3 (by omega)
    · rw [if_neg hp]
      by_cases hq : q = k + 1
      · subst hq; rw [if_pos rfl]; exact h.rest p k p1 (by omega) (by omega) hp
      · rw [if_neg hq]
        by_cases hq2 : q = k
        · subst hq2; rw [if_pos rfl]; exact h.rest p (q + 1) p1 (by omega) (by omega) hp
        · rw [if_neg hq2]; exact h.rest p q p1 p2 p3 hp
  · rw [hx q, hx (k + 1), if_pos rfl, if_neg (by omega), if_neg (by omega)]; exact h.low q (by omega) q2
  · rw [hx q, hx (k + 1), if_pos rfl, if_neg (by omega), if_neg (by omega)]; exact h.high q q1 q2

theorem Moves.done {lt : Int → Int → Bool} {a i b k : Nat} {ys : List Int} (h : Moves lt a i b k ys) (hk : k + 1 = i) : Rises lt a b ys := by
  intro p q p1 p2 p3
  by_cases hp : p = k
  · subst hp; exact h.high q (by omega) p3
  · exact h.rest p q p1 p2 p3 hp

end Go.Proofs.Ytmllbailfbjoeaa
