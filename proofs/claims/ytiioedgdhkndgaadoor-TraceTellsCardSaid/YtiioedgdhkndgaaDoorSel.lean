/- The words that were changed, rising: found one after another, the least that is above the last. -/
import Derived.Test.YtiioedgdhkndgaaDoorChgd
namespace Go.Proofs.YtiioedgdhkndgaaDoor
open Go.RowKit Go.Sort

theorem cu_spec (zs : List Int) (hs : ∀ i j, i ≤ j → j < zs.length → zs.toArray[i]! ≤ zs.toArray[j]!) : ∀ m, m ≤ zs.length → (Lib.compactUpTo zs.toArray m).Pairwise (· < ·) ∧ ∀ x, x ∈ Lib.compactUpTo zs.toArray m ↔ ∃ j, j < m ∧ zs.toArray[j]! = x
  | 0, _ => ⟨by simp [Lib.compactUpTo], fun x => by simp [Lib.compactUpTo]⟩
  | m + 1, hm => by
    obtain ⟨ih1, ih2⟩ := cu_spec zs hs m (by omega)
    rw [Lib.compactUpTo_succ]
    by_cases hk : Lib.keeps zs.toArray m = true
    · rw [if_pos hk]
      refine ⟨List.pairwise_append.2 ⟨ih1, by simp, fun a ha b hb => ?_⟩, fun x => ?_⟩
      · simp only [List.mem_singleton] at hb
        subst hb
        obtain ⟨j, hj, rfl⟩ := (ih2 a).1 ha
        have h1 := hs j (m - 1) (by omega) (by omega)
        have h2 := hs (m - 1) m (by omega) (by omega)
        simp only [Lib.keeps, decide_eq_true_eq] at hk
        omega
      · simp only [List.mem_append, List.mem_singleton, ih2]
        constructor
        · rintro (⟨j, hj, rfl⟩ | rfl)
          · exact ⟨j, by omega, rfl⟩
          · exact ⟨m, by omega, rfl⟩
        · rintro ⟨j, hj, rfl⟩
          by_cases hjm : j = m
          · subst hjm; exact .inr rfl
          · exact .inl ⟨j, by omega, rfl⟩
    · rw [if_neg hk, List.append_nil]
      refine ⟨ih1, fun x => ?_⟩
      rw [ih2]
      constructor
      · rintro ⟨j, hj, rfl⟩; exact ⟨j, by omega, rfl⟩
      · rintro ⟨j, hj, rfl⟩
        by_cases hjm : j = m
        · subst hjm
          simp only [Lib.keeps, decide_eq_true_eq] at hk
          exact ⟨j - 1, by omega, by omega⟩
        · exact ⟨j, by omega, rfl⟩

theorem chgS_spec (l : List Acc) : (chgS l).Pairwise (· < ·) ∧ ∀ x, x ∈ chgS l ↔ x ∈ chgA l := by
  have hp : ((chgA l).mergeSort fun x y => decide (x ≤ y)).Pairwise fun x y => decide (x ≤ y) = true :=
    List.pairwise_mergeSort (by intro a b c; simp; omega) (by intro a b; simp; omega) _
  have hm : ∀ x, x ∈ ((chgA l).mergeSort fun x y => decide (x ≤ y)) ↔ x ∈ chgA l := fun x => (List.mergeSort_perm _ _).mem_iff
  unfold chgS Lib.compact
  generalize ((chgA l).mergeSort fun x y => decide (x ≤ y)) = zs at *
  obtain ⟨h1, h2⟩ := cu_spec zs (fun i j hij hj => by
    rw [getElem!_pos _ i (by simp; omega), getElem!_pos _ j (by simpa using hj)]
    rcases Nat.lt_or_eq_of_le hij with h | rfl
    · have := List.pairwise_iff_getElem.1 hp i j (by omega) hj h
      simpa using this
    · exact Int.le_refl _) zs.length (Nat.le_refl _)
  refine ⟨h1, fun x => ?_⟩
  rw [h2, ← hm]
  constructor
  · rintro ⟨j, hj, rfl⟩
    rw [getElem!_pos _ j (by simpa using hj)]
    simp
  · intro h
    obtain ⟨j, hj, rfl⟩ := List.getElem_of_mem h
    exact ⟨j, hj, by rw [getElem!_pos _ j (by simpa using hj)]; simp⟩

def lateB (o : List Int) (x : Int) : Bool := (o.length : Int) == 0 || decide (o.getD (o.length - 1) 0 < x)

def bstep (o : List Int) (acc : Option Int) (a : Acc) : Option Int := if chgB a && lateB o a.addr && (!acc.isSome || decide (a.addr < acc.getD (-1))) then some a.addr else acc
def bst (o : List Int) (l : List Acc) : Option Int := l.foldl (bstep o) none
theorem bst_snoc (o : List Int) (l : List Acc) (x : Acc) : bst o (l ++ [x]) = bstep o (bst o l) x := by simp [bst]

theorem bst_spec (o : List Int) : ∀ (l : List Acc) (acc : Option Int),
    (l.foldl (bstep o) acc = none → acc = none ∧ ∀ x ∈ chgA l, lateB o x = false) ∧
    ∀ b, l.foldl (bstep o) acc = some b → (acc = some b ∨ b ∈ chgA l ∧ lateB o b = true) ∧ (∀ a, acc = some a → b ≤ a) ∧ ∀ x ∈ chgA l, lateB o x = true → b ≤ x
  | [], acc => by
    refine ⟨fun h => ⟨h, fun x hx => by simp [chgA] at hx⟩, fun b h => ?_⟩
    simp only [List.foldl_nil] at h
    exact ⟨.inl h, fun a ha => by rw [h] at ha; injection ha with ha; omega, fun x hx => by simp [chgA] at hx⟩
  | a :: l, acc => by
    have ih := bst_spec o l (bstep o acc a)
    have hA : chgA (a :: l) = if chgB a then a.addr :: chgA l else chgA l := by
      unfold chgA
      cases h : chgB a <;> simp [h]
    rw [List.foldl_cons, hA]
    generalize l.foldl (bstep o) (bstep o acc a) = r at *
    unfold bstep at ih
    cases hc : chgB a
    · simp only [hc, Bool.false_and, Bool.false_eq_true, if_false] at ih ⊢
      exact ih
    · simp only [hc, Bool.true_and, if_true] at ih ⊢
      cases hl : lateB o a.addr
      · simp only [hl, Bool.false_and, Bool.false_eq_true, if_false] at ih
        refine ⟨fun h => ⟨(ih.1 h).1, fun x hx => ?_⟩, fun b h => ⟨?_, (ih.2 b h).2.1, fun x hx hlx => ?_⟩⟩
        · rcases List.mem_cons.1 hx with rfl | hx
          · exact hl
          · exact (ih.1 h).2 x hx
        · rcases (ih.2 b h).1 with h1 | ⟨h1, h2⟩
          · exact .inl h1
          · exact .inr ⟨List.mem_cons_of_mem _ h1, h2⟩
        · rcases List.mem_cons.1 hx with rfl | hx
          · rw [hl] at hlx; cases hlx
          · exact (ih.2 b h).2.2 x hx hlx
      · simp only [hl, Bool.true_and] at ih
        cases acc with
        | none =>
          simp only [Option.isSome_none, Bool.not_false, Bool.true_or, if_true] at ih
          refine ⟨fun h => ?_, fun b h => ?_⟩
          · have := (ih.1 h).1; cases this
          · obtain ⟨h1, h2, h3⟩ := ih.2 b h
            have h2a := h2 _ rfl
            refine ⟨.inr ?_, fun _ h => (by cases h), fun x hx hlx => ?_⟩
            · rcases h1 with h1 | ⟨h1, h1'⟩
              · injection h1 with h1; subst h1; exact ⟨by simp, hl⟩
              · exact ⟨List.mem_cons_of_mem _ h1, h1'⟩
            · rcases List.mem_cons.1 hx with rfl | hx
              · exact h2a
              · exact h3 x hx hlx
        | some c =>
          simp only [Option.isSome_some, Bool.not_true, Bool.false_or, Option.getD_some, decide_eq_true_eq] at ih
          by_cases hlt : a.addr < c
          · rw [if_pos hlt] at ih
            refine ⟨fun h => ?_, fun b h => ?_⟩
            · have := (ih.1 h).1; cases this
            · obtain ⟨h1, h2, h3⟩ := ih.2 b h
              have h2a := h2 _ rfl
              refine ⟨.inr ?_, fun _ h => (by injection h with h; omega), fun x hx hlx => ?_⟩
              · rcases h1 with h1 | ⟨h1, h1'⟩
                · injection h1 with h1; subst h1; exact ⟨by simp, hl⟩
                · exact ⟨List.mem_cons_of_mem _ h1, h1'⟩
              · rcases List.mem_cons.1 hx with rfl | hx
                · exact h2a
                · exact h3 x hx hlx
          · rw [if_neg hlt] at ih
            refine ⟨fun h => ?_, fun b h => ?_⟩
            · have := (ih.1 h).1; cases this
            · obtain ⟨h1, h2, h3⟩ := ih.2 b h
              have h2a := h2 _ rfl
              refine ⟨?_, h2, fun x hx hlx => ?_⟩
              · rcases h1 with h1 | ⟨h1, h1'⟩
                · exact .inl h1
                · exact .inr ⟨List.mem_cons_of_mem _ h1, h1'⟩
              · rcases List.mem_cons.1 hx with rfl | hx
                · omega
                · exact h3 x hx hlx

/-- The least above the first k of them is number k. -/
theorem bst_at (l : List Acc) (k : Nat) (hk : k ≤ (chgS l).length) : bst ((chgS l).take k) l = (chgS l)[k]? := by
  obtain ⟨hp, hm⟩ := chgS_spec l
  obtain ⟨h1, h2⟩ := bst_spec ((chgS l).take k) l none
  have hlate : ∀ j (hj : j < (chgS l).length), lateB ((chgS l).take k) (chgS l)[j] = decide (k ≤ j) := by
    intro j hj
    unfold lateB
    rw [List.length_take, Nat.min_eq_left hk]
    by_cases hk0 : k = 0
    · subst hk0; simp
    · have e1 : ((k : Int) == 0) = false := by simp; omega
      rw [e1, Bool.false_or]
      have hgt : ((chgS l).take k).getD (k - 1) 0 = (chgS l)[k - 1] := by
        simp [List.getD, List.getElem?_take, show k - 1 < k by omega, show k - 1 < (chgS l).length by omega]
      rw [hgt]
      congr 1
      apply propext
      rcases Nat.lt_trichotomy (k - 1) j with h | h | h
      · have := List.pairwise_iff_getElem.1 hp (k - 1) j (by omega) hj h
        omega
      · subst h; omega
      · have := List.pairwise_iff_getElem.1 hp j (k - 1) hj (by omega) h
        omega
  show l.foldl (bstep _) none = _
  generalize hr : l.foldl (bstep ((chgS l).take k)) none = r at *
  rcases Nat.lt_or_ge k (chgS l).length with hlt | hge
  · rw [List.getElem?_eq_getElem hlt]
    cases r with
    | none =>
      have := (h1 rfl).2 _ ((hm _).1 (List.getElem_mem hlt))
      rw [hlate k hlt] at this
      simp at this
    | some b =>
      obtain ⟨g1, _, g3⟩ := h2 b rfl
      obtain ⟨g1, g1'⟩ := g1.resolve_left (by simp)
      obtain ⟨j, hj, rfl⟩ := List.getElem_of_mem ((hm b).2 g1)
      rw [hlate j hj] at g1'
      have hkj : k ≤ j := of_decide_eq_true g1'
      have h3 := g3 _ ((hm _).1 (List.getElem_mem hlt)) (by rw [hlate k hlt]; simp)
      rcases Nat.lt_or_eq_of_le hkj with h | rfl
      · have := List.pairwise_iff_getElem.1 hp k j hlt hj h
        omega
      · rfl
  · rw [List.getElem?_eq_none hge]
    cases r with
    | none => rfl
    | some b =>
      obtain ⟨g1, _, g3⟩ := h2 b rfl
      obtain ⟨g1, g1'⟩ := g1.resolve_left (by simp)
      obtain ⟨j, hj, rfl⟩ := List.getElem_of_mem ((hm b).2 g1)
      rw [hlate j hj] at g1'
      have hkj : k ≤ j := of_decide_eq_true g1'
      omega

theorem chgS_le (l : List Acc) : (chgS l).length ≤ l.length := by
  unfold chgS
  refine Nat.le_trans (compact_le _) ?_
  rw [List.length_mergeSort]
  exact chgA_le l

end Go.Proofs.YtiioedgdhkndgaaDoor
