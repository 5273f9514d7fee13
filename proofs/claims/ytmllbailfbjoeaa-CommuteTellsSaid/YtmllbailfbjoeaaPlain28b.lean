/- The depths of accesses, by what they must be; the one order by depths and threads. -/
import Derived.Test.YtmllbailfbjoeaaPlain28
namespace Go.Proofs.Ytmllbailfbjoeaa

theorem lvOf_ge (b : Acc) : ∀ (ps : List Acc) (xs : List Int) (n : Int), ps.length = xs.length → n ≤ lvOf b ps xs n ∧ ∀ k, k < ps.length → freeB (ps.getD k Acc.none) b = false → xs.getD k 0 + 1 ≤ lvOf b ps xs n
  | [], [], n, _ => ⟨by simp [lvOf], fun k hk => by simp at hk⟩
  | a :: ps, x :: xs, n, h => by
    have ih := lvOf_ge b ps xs (if freeB a b = true then n else max n (x + 1)) (by simpa using h)
    simp only [lvOf]
    refine ⟨?_, fun k hk hf => ?_⟩
    · have h1 := ih.1
      have h2 : n ≤ (if freeB a b = true then n else max n (x + 1)) := by split <;> omega
      exact Int.le_trans h2 h1
    · match k with
      | 0 =>
        simp at hf
        have := ih.1
        rw [hf] at this
        simp only [Bool.false_eq_true, if_false] at this
        rw [hf]
        simp only [Bool.false_eq_true, if_false, List.getD_cons_zero]
        omega
      | k + 1 =>
        have := ih.2 k (by simpa using hk) (by simpa using hf)
        simpa using this

theorem lvOf_is (b : Acc) : ∀ (ps : List Acc) (xs : List Int) (n : Int), ps.length = xs.length → lvOf b ps xs n = n ∨ ∃ k, k < ps.length ∧ freeB (ps.getD k Acc.none) b = false ∧ lvOf b ps xs n = xs.getD k 0 + 1
  | [], [], n, _ => .inl (by simp [lvOf])
  | a :: ps, x :: xs, n, h => by
    have ih := lvOf_is b ps xs (if freeB a b = true then n else max n (x + 1)) (by simpa using h)
    simp only [lvOf]
    rcases ih with ih | ⟨k, k1, k2, k3⟩
    · rw [ih]
      cases hf : freeB a b
      · simp only [Bool.false_eq_true, if_false]
        rcases Int.le_total n (x + 1) with hle | hle
        · right; exact ⟨0, by simp, by simpa using hf, by simp; omega⟩
        · left; omega
      · left; simp
    · right
      exact ⟨k + 1, by simpa using k1, by simpa using k2, by simpa using k3⟩

/-- How deep the access number i lies. -/
def lv (l : List Acc) (i : Nat) : Int := (lvs l l.length).getD i 0

theorem lvs_take (l : List Acc) : ∀ n i, i ≤ n → (lvs l n).take i = lvs l i
  | 0, i, h => by
    have h0 : i = 0 := by omega
    subst h0
    simp [lvs]
  | n + 1, i, h => by
    have hl := lvs_length l n
    by_cases hi : i = n + 1
    · subst hi
      exact List.take_of_length_le (by rw [lvs_length]; omega)
    · rw [lvs, List.take_append_of_le_length (by omega)]
      exact lvs_take l n i (by omega)

theorem lvs_getD (l : List Acc) (n i : Nat) (h : i < n) : (lvs l n).getD i 0 = lvOf (l.getD i Acc.none) (l.take i) (lvs l i) 0 := by
  have h1 := lvs_take l n (i + 1) (by omega)
  have hl := lvs_length l n
  have hli := lvs_length l i
  have h2 : (lvs l n).getD i 0 = ((lvs l n).take (i + 1)).getD i 0 := by simp [List.getD]
  rw [h2, h1, lvs]
  simp [List.getD, hli]

theorem lvs_getD_take (l : List Acc) (n i k : Nat) (h : i ≤ n) (hk : k < i) : (lvs l i).getD k 0 = (lvs l n).getD k 0 := by
  rw [← lvs_take l n i h]
  simp [List.getD, hk]

theorem take_getD (l : List Acc) (i k : Nat) (hk : k < i) : (l.take i).getD k Acc.none = l.getD k Acc.none := by
  simp [List.getD, hk]

/-- What depths must be. -/
structure Depths (l : List Acc) (f : Nat → Int) : Prop where
  pos : ∀ i, i < l.length → 0 ≤ f i
  up : ∀ k i, k < i → i < l.length → freeB (l.getD k Acc.none) (l.getD i Acc.none) = false → f k + 1 ≤ f i
  is : ∀ i, i < l.length → f i = 0 ∨ ∃ k, k < i ∧ freeB (l.getD k Acc.none) (l.getD i Acc.none) = false ∧ f i = f k + 1

theorem depths_lv (l : List Acc) : Depths l (lv l) := by
  refine ⟨fun i hi => ?_, fun k i hk hi hf => ?_, fun i hi => ?_⟩
  · unfold lv
    rw [lvs_getD l _ i hi]
    exact (lvOf_ge _ _ _ 0 (by rw [lvs_length]; simp; omega)).1
  · unfold lv
    rw [lvs_getD l _ i hi, ← lvs_getD_take l l.length i k (by omega) hk]
    exact (lvOf_ge _ _ _ 0 (by rw [lvs_length]; simp; omega)).2 k (by simp; omega) (by rw [take_getD l i k hk]; exact hf)
  · unfold lv
    rw [lvs_getD l _ i hi]
    rcases lvOf_is (l.getD i Acc.none) (l.take i) (lvs l i) 0 (by rw [lvs_length]; simp; omega) with h | ⟨k, k1, k2, k3⟩
    · exact .inl h
    · right
      have hk : k < i := by simp at k1; omega
      refine ⟨k, hk, by rw [← take_getD l i k hk]; exact k2, ?_⟩
      rw [k3, lvs_getD_take l l.length i k (by omega) hk]

theorem depths_one (l : List Acc) {f g : Nat → Int} (hf : Depths l f) (hg : Depths l g) : ∀ i, i < l.length → f i = g i := by
  intro i
  induction i using Nat.strongRecOn with
  | _ i ih =>
    intro hi
    have a1 : f i ≤ g i := by
      rcases hf.is i hi with h | ⟨k, k1, k2, k3⟩
      · have := hg.pos i hi; omega
      · have := hg.up k i k1 hi k2
        have := ih k k1 (by omega)
        omega
    have a2 : g i ≤ f i := by
      rcases hg.is i hi with h | ⟨k, k1, k2, k3⟩
      · have := hf.pos i hi; omega
      · have := hf.up k i k1 hi k2
        have := ih k k1 (by omega)
        omega
    omega

theorem free_symm (a b : Acc) : freeB a b = freeB b a := by
  unfold freeB
  grind

/-- Which of two places comes first: by depth, then by thread. -/
def first (l : List Acc) (x y : Int) : Prop := cmpS (lvs l l.length) l x y < 0

theorem first_iff (l : List Acc) (i j : Nat) : first l i j ↔ lv l i < lv l j ∨ lv l i = lv l j ∧ (l.getD i Acc.none).thread < (l.getD j Acc.none).thread := by
  unfold first cmpS lv cmp3
  simp only [Int.toNat_natCast]
  grind

theorem first_asymm (l : List Acc) (x y : Int) (h : first l x y) : ¬ first l y x := by
  unfold first cmpS cmp3 at *
  grind

/-- Two places differ: one comes first. -/
theorem first_or (l : List Acc) (i j : Nat) (hi : i < j) (hj : j < l.length) : first l i j ∨ first l j i := by
  rw [first_iff, first_iff]
  by_cases ht : (l.getD i Acc.none).thread = (l.getD j Acc.none).thread
  · have hf : freeB (l.getD i Acc.none) (l.getD j Acc.none) = false := by unfold freeB; rw [ht]; simp
    have := (depths_lv l).up i j hi hj hf
    omega
  · omega

end Go.Proofs.Ytmllbailfbjoeaa
