/- What the evaluator tells where calls were reckoned ahead. -/
import Derived.Test.YtedipingocmmdaaGreatEvRun
import Derived.Test.YtedipingocmmdaaGreatEvK
namespace Go.Proofs.YtedipingocmmdaaGreat.Ev
open Go Go.RowKit

noncomputable def saysV (v : Value) (r : Res Value) : Bool := Res.rec false (fun u _ _ _ => eqV v u) r
noncomputable def someB {α : Type} (x : Option α) : Bool := Option.rec false (fun _ => true) x
theorem knOk_says {f d : Nat} {a : List Value} {v : Value} (h1 : someB (tabF.get f) = true) (h2 : a.all flatA = true) (h3 : flatA v = true) (h : saysV v (evF tabF nobody d f a false 16 .leaf []) = true) : KnOk Tryz.prog f a v := by
  cases hr : evF tabF nobody d f a false 16 .leaf [] with
  | no => rw [hr] at h; cases h
  | ok u c H l =>
    rw [hr] at h
    have e : v = u := eqV_eq h
    subst e
    refine knOk_of tab_ok (ev_ok d) ?_ h2 h3 hr
    cases hg : tabF.get f with
    | none => rw [hg] at h1; cases h1
    | some E => exact ⟨E, rfl⟩
def KnAll (P : Program) : Trie (List (List Value × Value)) → Nat → Nat → Prop
  | .leaf, _, _ => True
  | .node l v r, a, b => KnAll P l (2 * a) (a + b) ∧ (∀ e, v = some e → ∀ x u, (x, u) ∈ e → KnOk P b x u) ∧ KnAll P r (2 * a) (2 * a + b)
section
variable {P : Program}
theorem KnAll.node {l r : Trie (List (List Value × Value))} {v : Option (List (List Value × Value))} {a b : Nat} (a2 bl br : Nat) (e1 : 2 * a = a2) (e2 : a + b = bl) (e3 : 2 * a + b = br) (h : ∀ e, v = some e → ∀ x u, (x, u) ∈ e → KnOk P b x u) (hl : KnAll P l a2 bl) (hr : KnAll P r a2 br) : KnAll P (.node l v r) a b := by
  subst e1 e2 e3
  exact ⟨hl, h, hr⟩
theorem KnAll.none {b : Nat} : ∀ e, (Option.none : Option (List (List Value × Value))) = Option.some e → ∀ x u, (x, u) ∈ e → KnOk P b x u := fun e he => by cases he
theorem KnAll.nil {b : Nat} : ∀ e, Option.some ([] : List (List Value × Value)) = Option.some e → ∀ x u, (x, u) ∈ e → KnOk P b x u := fun e he x u hx => by injection he with he; subst he; cases hx
theorem KnAll.cons {b : Nat} {a : List Value} {v : Value} {r : List (List Value × Value)} (h : KnOk P b a v) (hr : ∀ e, Option.some r = Option.some e → ∀ x u, (x, u) ∈ e → KnOk P b x u) : ∀ e, Option.some ((a, v) :: r) = Option.some e → ∀ x u, (x, u) ∈ e → KnOk P b x u := fun e he x u hx => by
  injection he with he
  subst he
  rcases List.mem_cons.mp hx with e | hx
  · injection e with e1 e2
    subst e1 e2
    exact h
  · exact hr _ rfl x u hx
theorem KnAll.get : ∀ (t : Trie (List (List Value × Value))) (a b : Nat), KnAll P t a b → ∀ n e, t.get n = .some e → ∀ x u, (x, u) ∈ e → KnOk P (a * n + b) x u
  | .leaf, _, _, _, n, E, h => by cases h
  | .node l v r, a, b, h, n, E, hg => by
    obtain ⟨hl, hv, hr⟩ := h
    replace hg : (Bool.rec (Bool.rec (r.get (n / 2 - 1)) (l.get (n / 2)) (Nat.beq (n % 2) 1)) v (Nat.beq n 0) : Option (List (List Value × Value))) = .some E := hg
    rcases beq_cases n 0 with ⟨e, h0⟩ | ⟨e, h0⟩
    · rw [e] at hg
      rw [h0, Nat.mul_zero, Nat.zero_add]
      exact hv E hg
    · rw [e] at hg
      replace hg : (Bool.rec (r.get (n / 2 - 1)) (l.get (n / 2)) (Nat.beq (n % 2) 1) : Option (List (List Value × Value))) = .some E := hg
      rcases beq_cases (n % 2) 1 with ⟨e2, h2⟩ | ⟨e2, h2⟩
      · rw [e2] at hg
        have := KnAll.get l _ _ hl (n / 2) E hg
        have e3 : a * n + b = 2 * a * (n / 2) + (a + b) := by
          have : n = 2 * (n / 2) + 1 := by omega
          generalize n / 2 = m at *
          subst this
          rw [Nat.mul_add, Nat.mul_one, ← Nat.mul_assoc, Nat.mul_comm a 2]
          omega
        rw [e3]; exact this
      · rw [e2] at hg
        have := KnAll.get r _ _ hr (n / 2 - 1) E hg
        have e3 : a * n + b = 2 * a * (n / 2 - 1) + (2 * a + b) := by
          have : n = 2 * (n / 2 - 1) + 2 := by omega
          generalize n / 2 - 1 = m at *
          subst this
          rw [Nat.mul_add, ← Nat.mul_assoc, Nat.mul_comm a 2]
          omega
        rw [e3]; exact this
end
noncomputable def ktF (t : Trie (List (List Value × Value))) (f : Nat) : List (List Value × Value) := Option.rec [] (fun x => x) (t.get f)
theorem saysK_of {t : Trie (List (List Value × Value))} (ht : KnAll Tryz.prog t 1 0) {f d : Nat} (h : saysK (evK tabF (ktF t) d f [] false 16 .leaf []) = true) (w : World) : Calls Tryz.prog f #[] w fun e w' => e = .returned (.bool true) ∧ Below w.heap.size w w' := by
  obtain ⟨c, H, l, h⟩ := says_ok h
  refine ev_calls (evK_ok tab_ok mixed (K := ktF t) (fun f a v hv => ?_) d) h w
  unfold ktF at hv
  cases hg : t.get f with
  | none => rw [hg] at hv; cases hv
  | some e =>
    rw [hg] at hv
    have := KnAll.get t 1 0 ht f e hg a v hv
    rw [Nat.one_mul, Nat.add_zero] at this
    exact this
end Go.Proofs.YtedipingocmmdaaGreat.Ev

