/- What the evaluator with continuations tells of the program. -/
import Derived.Test.YtedipingocmmdaaGreatEvRunK
import Derived.Test.YtedipingocmmdaaGreatEvPS
namespace Go.Proofs.YtedipingocmmdaaGreat.Ev
open Go Go.RowKit

noncomputable def mapT {α β : Type} (f : α → β) : Trie α → Trie β
  | .leaf => .leaf
  | .node l v r => .node (mapT f l) (v.map f) (mapT f r)
theorem mapT_get {α β : Type} (f : α → β) : ∀ (t : Trie α) (n : Nat), (mapT f t).get n = (t.get n).map f
  | .leaf, _ => rfl
  | .node l v r, n => by
    show (Bool.rec (Bool.rec ((mapT f r).get (n / 2 - 1)) ((mapT f l).get (n / 2)) (Nat.beq (n % 2) 1)) (v.map f) (Nat.beq n 0) : Option β) = (Bool.rec (Bool.rec (r.get (n / 2 - 1)) (l.get (n / 2)) (Nat.beq (n % 2) 1)) v (Nat.beq n 0) : Option α).map f
    cases Nat.beq n 0 with
    | true => rfl
    | false => cases Nat.beq (n % 2) 1 with
      | true => exact mapT_get f l _
      | false => exact mapT_get f r _
theorem tab_deep0 : tabF = mapT shalF tabD := by kernel_rfl
theorem tab_deep (f : Nat) : tabF.get f = (tabD.get f).map shalF := by rw [tab_deep0, mapT_get]
theorem known_up (ks : List (List Value × Value)) (args : List Value) (m : M Value) : C.up (knownF ks args m) = C.knownC ks args (C.up m) := by
  induction ks with
  | nil => rfl
  | cons k r ih =>
    obtain ⟨a, v⟩ := k
    show C.up (Bool.rec (knownF r args m) (M.ret v) (eqL a args) : M Value) = (Bool.rec (C.knownC r args (C.up m)) (C.M.ret v) (eqL a args) : C.M Value)
    cases eqL a args
    · exact ih
    · rfl
theorem evC_up (K : Nat → List (List Value × Value)) : ∀ d f l, C.evC tabD K d f l = C.up (evK tabF K d f l)
  | 0, _, _ => rfl
  | d + 1, f, l => by
    show C.knownC (K f) l (C.enterF tabD (C.evC tabD K d) f l) = C.up (knownF (K f) l (enterF tabF (evK tabF K d) f l))
    rw [known_up, C.enter_up tab_deep _ _ (evC_up K d)]
theorem saysC_of {t : Trie (List (List Value × Value))} (ht : KnAll Tryz.prog t 1 0) {f d : Nat} (h : (C.evC tabD (ktF t) d f [] false 16 .leaf [] fun v _ _ _ => onBool v false fun b => b) = true) (w : World) : Calls Tryz.prog f #[] w fun e w' => e = .returned (.bool true) ∧ Below w.heap.size w w' := by
  rw [evC_up] at h
  exact saysK_of ht h w
end Go.Proofs.YtedipingocmmdaaGreat.Ev

