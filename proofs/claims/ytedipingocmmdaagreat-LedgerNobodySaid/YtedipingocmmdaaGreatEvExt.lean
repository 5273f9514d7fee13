/- What the evaluator tells of a call whose arguments name rows that lay there before; none of them is read. -/
import Derived.Test.YtedipingocmmdaaGreatEvPK
namespace Go.Proofs.YtedipingocmmdaaGreat.Ev
open Go Go.RowKit

/-- A cell that came in: a number, or a slice that lies in the world. -/
def tame (w : World) : Value → Prop
  | .int _ _ => True
  | .bool _ => True
  | .slice none _ _ => True
  | .slice (some a) _ c => a.spot = none ∧ a.block < w.heap.size ∧ c < roomy
  | _ => False
def unplace (i : Nat) : Value → Value
  | .slice (some a) l c => .slice (some ⟨i, a.off, none⟩) l c
  | v => v
def unL : Nat → List Value → List Value
  | _, [] => []
  | i, v :: r => unplace i v :: unL (i + 1) r
def blkOf : Value → Nat
  | .slice (some a) _ _ => a.block
  | _ => 0
def extR (cs : List Value) (i : Nat) : Loc := ⟨match cs[i]? with | some v => blkOf v | none => 0, 0, 0⟩
def extU (cs : List Value) (i : Nat) : Prop := ∃ a l c, cs[i]? = some (.slice (some a) l c)
section
variable {w : World} {cs : List Value}
theorem unplace_ok {i : Nat} {v : Value} (h : cs[i]? = some v) (ht : tame w v) : Ok (extR cs) (extU cs) (unplace i v) ∧ ren (extR cs) (unplace i v) = v ∧ one (unplace i v) := by
  cases v with
  | int k n => exact ⟨trivial, rfl, trivial⟩
  | bool b => exact ⟨trivial, rfl, trivial⟩
  | slice a l c => cases a with
    | none => exact ⟨trivial, rfl, trivial⟩
    | some a =>
      obtain ⟨h1, h2, h3⟩ := ht
      refine ⟨⟨⟨a, l, c, h⟩, ?_⟩, ?_, trivial⟩
      · unfold OkS; rw [if_neg (by omega)]; exact .inl rfl
      · show Value.slice (some (renA (extR cs) ⟨i, a.off, none⟩)) l (renC (extR cs) ⟨i, a.off, none⟩ c) = _
        unfold renC; rw [if_neg (by omega)]
        obtain ⟨b, o, s⟩ := a
        have h1 : s = none := h1
        subst h1
        show Value.slice (some ⟨(extR cs i).blk, o, none⟩) l c = _
        unfold extR; rw [h]; rfl
  | _ => exact ht.elim
theorem unL_ok : ∀ (r : List Value) (i : Nat), (∀ j v, r[j]? = some v → cs[i + j]? = some v ∧ tame w v) → (∀ v ∈ unL i r, Ok (extR cs) (extU cs) v ∧ one v) ∧ (unL i r).map (ren (extR cs)) = r
  | [], _, _ => ⟨fun _ h => (by cases h), rfl⟩
  | v :: r, i, h => by
    obtain ⟨h1, h2⟩ := h 0 v rfl
    rw [Nat.add_zero] at h1
    obtain ⟨h3, h4, h5⟩ := unplace_ok h1 h2
    obtain ⟨h6, h7⟩ := unL_ok r (i + 1) fun j u hu => by
      have := h (j + 1) u hu
      rw [Nat.add_assoc, Nat.add_comm 1 j]; exact this
    refine ⟨fun u hu => ?_, ?_⟩
    · rcases List.mem_cons.mp hu with rfl | hu
      · exact ⟨h3, h5⟩
      · exact h6 u hu
    · show ren (extR cs) (unplace i v) :: (unL (i + 1) r).map (ren (extR cs)) = v :: r
      rw [h4, h7]
theorem rel_ext {P : Program} (hl : cs.length ≤ 16) (ht : ∀ v ∈ cs, tame w v) : Rel P w.heap.size w (extR cs) (extU cs) .leaf w where
  old := .refl _ _
  top := Nat.le_refl _
  at_ := fun n ⟨a, l, c, h⟩ => by
    have hn : n < cs.length := (List.getElem?_eq_some_iff.1 h).1
    refine ⟨fun h16 => by omega, ?_⟩
    have := ht _ (List.mem_of_getElem? h)
    unfold extR; rw [h]; exact this.2.1
  inj := fun _ _ _ _ h => by cases h
  live := fun _ _ h => by cases h
  low := fun n ⟨a, l, c, h⟩ => by
    have hn : n < cs.length := (List.getElem?_eq_some_iff.1 h).1
    unfold big; omega
  row := fun _ _ h => by cases h
end
/-- Calls that are known. -/
def KnTab (P : Program) (K : Nat → List (List Value × Value)) : Prop := ∀ f a v, (a, v) ∈ K f → KnOk P f a v
noncomputable def saysT (r : C.M Value) : Bool := r false 16 .leaf [] fun v _ _ _ => onBool v false fun b => b
theorem saysX_of {K : Nat → List (List Value × Value)} (hK : KnTab Tryz.prog K) {f d : Nat} {args cs : List Value} {w : World} (hl : cs.length ≤ 16) (ht : ∀ v ∈ cs, tame w v) (hargs : ∀ v ∈ args, Ok (extR cs) (extU cs) v)
    (h : saysT (C.evC tabD K d f args) = true) : Calls Tryz.prog f (args.map (ren (extR cs))).toArray w fun e w' => e = .returned (.bool true) ∧ Below w.heap.size w w' := by
  unfold saysT at h
  rw [evC_up] at h
  obtain ⟨c, H, l, h⟩ := says_ok (show saysK (evK tabF K d f args false 16 .leaf []) = true from h)
  obtain ⟨-, h2⟩ := evK_ok tab_ok mixed hK d f args false 16 .leaf [] (.bool true) c H l w.heap.size w w _ _ hargs (rel_ext hl ht) (fun n hn _ ⟨a, x, y, hU⟩ => by
    have : n < cs.length := (List.getElem?_eq_some_iff.1 hU).1
    omega) h
  refine h2.mono ?_
  rintro e w' ⟨ρ', U', -, -, h3, -, rfl⟩
  exact ⟨rfl, h3.old⟩
/-- One known call, without arguments, that tells true. -/
noncomputable def oneK (n f : Nat) : List (List Value × Value) := Bool.rec [] [([], .bool true)] (Nat.beq f n)
theorem oneK_ok {n : Nat} (h1 : someB (tabF.get n) = true) (h : ∀ w : World, Calls Tryz.prog n #[] w fun e w' => e = .returned (.bool true) ∧ Below w.heap.size w w') : KnTab Tryz.prog (oneK n) := fun f a v hm => by
  unfold oneK at hm
  rcases beq_cases f n with ⟨e, hf⟩ | ⟨e, _⟩
  · rw [e] at hm
    subst hf
    rcases List.mem_singleton.mp (show (a, v) ∈ [([], Value.bool true)] from hm) with e
    injection e with e1 e2
    subst e1 e2
    refine ⟨?_, rfl, rfl, h⟩
    cases hg : tabF.get f with
    | none => rw [hg] at h1; cases h1
    | some E => exact ⟨E, tab_ok f E hg⟩
  · rw [e] at hm
    cases hm
end Go.Proofs.YtedipingocmmdaaGreat.Ev

