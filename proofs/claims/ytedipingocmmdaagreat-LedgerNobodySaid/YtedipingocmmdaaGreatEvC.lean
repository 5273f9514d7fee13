/- An evaluator of calls: its tables and lists. -/
import Derived.Test.YtedipingocmmdaaGreatEvA
namespace Go.Proofs.YtedipingocmmdaaGreat.Ev
open Go

theorem beq_cases (a b : Nat) : (Nat.beq a b = true ∧ a = b) ∨ (Nat.beq a b = false ∧ a ≠ b) := by
  cases h : Nat.beq a b
  · exact .inr ⟨rfl, fun e => by subst e; rw [Nat.beq_refl] at h; cases h⟩
  · exact .inl ⟨rfl, Nat.eq_of_beq_eq_true h⟩
theorem ble_cases (a b : Nat) : (Nat.ble a b = true ∧ a ≤ b) ∨ (Nat.ble a b = false ∧ b < a) := by
  cases h : Nat.ble a b
  · exact .inr ⟨rfl, Nat.lt_of_not_le fun e => by rw [Nat.ble_eq_true_of_le e] at h; cases h⟩
  · exact .inl ⟨rfl, Nat.le_of_ble_eq_true h⟩
theorem blt_cases (a b : Nat) : (Nat.blt a b = true ∧ a < b) ∨ (Nat.blt a b = false ∧ b ≤ a) := by
  unfold Nat.blt
  rcases ble_cases (a.succ) b with ⟨h, h2⟩ | ⟨h, h2⟩
  · exact .inl ⟨h, h2⟩
  · exact .inr ⟨h, Nat.lt_succ_iff.mp h2⟩
theorem andK_true {a b : Bool} (h : andK a b = true) : a = true ∧ b = true := by cases a <;> cases b <;> first | exact ⟨rfl, rfl⟩ | cases h

theorem Trie.get_leaf {α : Type} (k : Nat) : (Trie.leaf : Trie α).get k = none := rfl
theorem Trie.get_node {α : Type} (l : Trie α) (v : Option α) (r : Trie α) (k : Nat) :
    (Trie.node l v r).get k = if k = 0 then v else if k % 2 = 1 then l.get (k / 2) else r.get (k / 2 - 1) := by
  have e : (Trie.node l v r).get k = Bool.rec (Bool.rec (r.get (Nat.sub (Nat.div k 2) 1)) (l.get (Nat.div k 2)) (Nat.beq (Nat.mod k 2) 1)) v (Nat.beq k 0) := rfl
  rw [e]
  rcases beq_cases k 0 with ⟨h1, h2⟩ | ⟨h1, h2⟩
  · rw [h1, if_pos h2]
  · rw [h1, if_neg h2]
    rcases beq_cases (Nat.mod k 2) 1 with ⟨h3, h4⟩ | ⟨h3, h4⟩
    · rw [h3, if_pos (show k % 2 = 1 from h4)]; rfl
    · rw [h3, if_neg (show ¬ k % 2 = 1 from h4)]; rfl

/-- Whether a place is within reach hangs on its number alone. -/
def insOk : Nat → Nat → Bool
  | 0, _ => false
  | f + 1, n => if n = 0 then true else if n % 2 = 1 then insOk f (n / 2) else insOk f (n / 2 - 1)
theorem Trie.ins_spec {α : Type} (a : Option α) : ∀ (f : Nat) (t : Trie α) (n : Nat),
    ∃ o : Option (Trie α), (∀ (R : Type) (no : R) (k : Trie α → R), Trie.ins no a f t n k = o.elim no k) ∧ o.isSome = insOk f n ∧ ∀ t', o = some t' → ∀ j, t'.get j = if j = n then a else t.get j
  | 0, t, n => ⟨none, fun _ _ _ => rfl, rfl, fun _ h => by cases h⟩
  | f + 1, t, n => by
    have e : ∀ (R : Type) (no : R) (k : Trie α → R), Trie.ins no a (f + 1) t n k =
      Bool.rec (Bool.rec (Trie.rec (Trie.ins no a f .leaf (Nat.sub (Nat.div n 2) 1) fun x => k (.node .leaf none x)) (fun l v r _ _ => Trie.ins no a f r (Nat.sub (Nat.div n 2) 1) fun x => k (.node l v x)) t)
       (Trie.rec (Trie.ins no a f .leaf (Nat.div n 2) fun x => k (.node x none .leaf)) (fun l v r _ _ => Trie.ins no a f l (Nat.div n 2) fun x => k (.node x v r)) t) (Nat.beq (Nat.mod n 2) 1))
      (Trie.rec (k (.node .leaf a .leaf)) (fun l _ r _ _ => k (.node l a r)) t) (Nat.beq n 0) := fun _ _ _ => rfl
    rcases beq_cases n 0 with ⟨h1, h2⟩ | ⟨h1, h2⟩
    · cases t with
      | leaf =>
        refine ⟨some (.node .leaf a .leaf), fun R no k => by rw [e, h1]; rfl, by simp [insOk, h2], fun t' ht j => ?_⟩
        injection ht with ht
        rw [← ht, Trie.get_node, h2]
        by_cases hj : j = 0
        · rw [if_pos hj, if_pos hj]
        · rw [if_neg hj, if_neg hj]; simp [Trie.get_leaf]
      | node l v r =>
        refine ⟨some (.node l a r), fun R no k => by rw [e, h1]; rfl, by simp [insOk, h2], fun t' ht j => ?_⟩
        injection ht with ht
        rw [← ht, Trie.get_node, Trie.get_node, h2]
        by_cases hj : j = 0
        · rw [if_pos hj, if_pos hj]
        · rw [if_neg hj, if_neg hj, if_neg hj]
    · rcases beq_cases (Nat.mod n 2) 1 with ⟨h3, h4⟩ | ⟨h3, h4⟩
      · have h4' : n % 2 = 1 := h4
        cases t with
        | leaf =>
          obtain ⟨o, ho, hs0, hg⟩ := Trie.ins_spec a f .leaf (Nat.div n 2)
          refine ⟨o.map fun x => .node x none .leaf, fun R no k => by rw [e, h1, h3]; simp only; rw [ho]; cases o <;> rfl, by rw [Option.isSome_map, hs0]; simp only [insOk, if_neg h2, if_pos h4']; rfl, fun t' ht j => ?_⟩
          cases o with
          | none => cases ht
          | some x =>
            injection ht with ht
            rw [← ht, Trie.get_node]
            by_cases hj : j = 0
            · rw [if_pos hj, if_neg (by omega)]; rfl
            · rw [if_neg hj]
              by_cases hj2 : j % 2 = 1
              · rw [if_pos hj2, hg x rfl]
                by_cases hjn : j = n
                · rw [if_pos hjn, if_pos (by rw [hjn]; rfl)]
                · rw [if_neg hjn, if_neg (by show ¬ j / 2 = n / 2; omega)]; rfl
              · rw [if_neg hj2, if_neg (by intro h; rw [h] at hj2; exact hj2 h4')]; rfl
        | node l v r =>
          obtain ⟨o, ho, hs0, hg⟩ := Trie.ins_spec a f l (Nat.div n 2)
          refine ⟨o.map fun x => .node x v r, fun R no k => by rw [e, h1, h3]; simp only; rw [ho]; cases o <;> rfl, by rw [Option.isSome_map, hs0]; simp only [insOk, if_neg h2, if_pos h4']; rfl, fun t' ht j => ?_⟩
          cases o with
          | none => cases ht
          | some x =>
            injection ht with ht
            rw [← ht, Trie.get_node, Trie.get_node]
            by_cases hj : j = 0
            · rw [if_pos hj, if_neg (by omega), if_pos hj]
            · rw [if_neg hj, if_neg hj]
              by_cases hj2 : j % 2 = 1
              · rw [if_pos hj2, if_pos hj2, hg x rfl]
                by_cases hjn : j = n
                · rw [if_pos hjn, if_pos (by rw [hjn]; rfl)]
                · rw [if_neg hjn, if_neg (by show ¬ j / 2 = n / 2; omega)]
              · rw [if_neg hj2, if_neg hj2, if_neg (by intro h; rw [h] at hj2; exact hj2 h4')]
      · have h4' : ¬ n % 2 = 1 := h4
        have hs : ∀ x : Nat, Nat.sub (Nat.div x 2) 1 = x / 2 - 1 := fun _ => rfl
        cases t with
        | leaf =>
          obtain ⟨o, ho, hs0, hg⟩ := Trie.ins_spec a f .leaf (Nat.sub (Nat.div n 2) 1)
          refine ⟨o.map fun x => .node .leaf none x, fun R no k => by rw [e, h1, h3]; simp only; rw [ho]; cases o <;> rfl, by rw [Option.isSome_map, hs0]; simp only [insOk, if_neg h2, if_neg h4']; rfl, fun t' ht j => ?_⟩
          cases o with
          | none => cases ht
          | some x =>
            injection ht with ht
            rw [← ht, Trie.get_node]
            by_cases hj : j = 0
            · rw [if_pos hj, if_neg (by omega)]; rfl
            · rw [if_neg hj]
              by_cases hj2 : j % 2 = 1
              · rw [if_pos hj2, if_neg (by intro h; rw [h] at hj2; exact h4' hj2)]; rfl
              · rw [if_neg hj2, hg x rfl]
                by_cases hjn : j = n
                · rw [if_pos hjn, if_pos (by rw [hjn]; rfl)]
                · rw [if_neg hjn, if_neg (by rw [hs]; omega)]; rfl
        | node l v r =>
          obtain ⟨o, ho, hs0, hg⟩ := Trie.ins_spec a f r (Nat.sub (Nat.div n 2) 1)
          refine ⟨o.map fun x => .node l v x, fun R no k => by rw [e, h1, h3]; simp only; rw [ho]; cases o <;> rfl, by rw [Option.isSome_map, hs0]; simp only [insOk, if_neg h2, if_neg h4']; rfl, fun t' ht j => ?_⟩
          cases o with
          | none => cases ht
          | some x =>
            injection ht with ht
            rw [← ht, Trie.get_node, Trie.get_node]
            by_cases hj : j = 0
            · rw [if_pos hj, if_neg (by omega), if_pos hj]
            · rw [if_neg hj, if_neg hj]
              by_cases hj2 : j % 2 = 1
              · rw [if_pos hj2, if_pos hj2, if_neg (by intro h; rw [h] at hj2; exact h4' hj2)]
              · rw [if_neg hj2, if_neg hj2, hg x rfl]
                by_cases hjn : j = n
                · rw [if_pos hjn, if_pos (by rw [hjn]; rfl)]
                · rw [if_neg hjn, if_neg (by rw [hs]; omega)]

/-! ### Lists -/
theorem mapK_eq {α β : Type} (f : α → β) : ∀ l : List α, mapK f l = l.map f
  | [] => rfl
  | x :: r => by show f x :: mapK f r = _; rw [mapK_eq f r]; rfl
theorem appK_eq {α : Type} (b : List α) : ∀ a : List α, appK a b = a ++ b
  | [] => rfl
  | x :: r => by show x :: appK r b = _; rw [appK_eq b r]; rfl
theorem lenIs_eq {α : Type} : ∀ (n : Nat) (l : List α), lenIs n l = true → l.length = n
  | 0, [], _ => rfl
  | 0, _ :: _, h => by cases h
  | n + 1, [], h => by cases h
  | n + 1, _ :: r, h => by rw [List.length_cons, lenIs_eq n r h]
theorem dropK_eq {α : Type} : ∀ (n : Nat) (l : List α), dropK n l = l.drop n
  | 0, _ => rfl
  | _ + 1, [] => rfl
  | n + 1, _ :: r => dropK_eq n r
theorem takeK_eq {α R : Type} (no : R) : ∀ (n : Nat) (l : List α) (k : List α → R), takeK no n l k = if n ≤ l.length then k (l.take n) else no
  | 0, _, _ => rfl
  | n + 1, [], _ => rfl
  | n + 1, x :: r, k => by
    show takeK no n r (fun ys => k (x :: ys)) = _
    rw [takeK_eq no n r]
    simp only [List.length_cons, Nat.add_le_add_iff_right, List.take_succ_cons]
theorem cut_eq {α R : Type} (o n : Nat) (l : List α) (no : R) (k : List α → R) : cut o n l no k = if n ≤ (l.drop o).length then k ((l.drop o).take n) else no := by
  unfold cut; rw [takeK_eq, dropK_eq]
theorem over_eq {α R : Type} (no : R) : ∀ (vs l : List α) (k : List α → R), over no vs l k = if vs.length ≤ l.length then k (vs ++ l.drop vs.length) else no
  | [], _, _ => rfl
  | v :: vs, [], _ => rfl
  | v :: vs, x :: r, k => by
    show over no vs r (fun ys => k (v :: ys)) = _
    rw [over_eq no vs r]
    simp only [List.length_cons, Nat.add_le_add_iff_right, List.drop_succ_cons, List.cons_append]
/-- Cells written over others. -/
def overL {α : Type} (o : Nat) (vs l : List α) : List α := l.take o ++ vs ++ l.drop (o + vs.length)
theorem overAt_eq {α R : Type} (vs : List α) (no : R) : ∀ (o : Nat) (l : List α) (k : List α → R), overAt o vs no l k = if o + vs.length ≤ l.length then k (overL o vs l) else no
  | 0, l, k => by
    show over no vs l k = _
    rw [over_eq]; simp [overL]
  | o + 1, [], k => by
    show no = _
    rw [if_neg (by simp)]
  | o + 1, x :: r, k => by
    show overAt o vs no r (fun ys => k (x :: ys)) = _
    rw [overAt_eq vs no o r]
    have e : o + 1 + vs.length = (o + vs.length) + 1 := by omega
    simp only [List.length_cons, overL, List.take_succ_cons, List.cons_append, e, List.drop_succ_cons, Nat.add_le_add_iff_right]
theorem overL_length {α : Type} (o : Nat) (vs l : List α) (h : o + vs.length ≤ l.length) : (overL o vs l).length = l.length := by
  simp [overL]; omega
theorem times_eq {α : Type} (z : List α) : ∀ n, times n z = (List.replicate n z).flatten
  | 0 => rfl
  | n + 1 => by show appK z (times n z) = _; rw [appK_eq, times_eq z n, List.replicate_succ, List.flatten_cons]
theorem nth_eq {α R : Type} (no : R) (k : α → R) : ∀ (n : Nat) (l : List α), nth no k n l = match l[n]? with | some x => k x | none => no
  | 0, [] => rfl
  | 0, _ :: _ => rfl
  | n + 1, [] => rfl
  | n + 1, _ :: r => by show nth no k n r = _; rw [nth_eq no k n r]; rfl
theorem toL_eq (a : Array Value) : toL a = a.toList := rfl
end Go.Proofs.YtedipingocmmdaaGreat.Ev

