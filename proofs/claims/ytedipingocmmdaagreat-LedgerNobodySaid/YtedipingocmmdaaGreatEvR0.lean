/- An evaluator of calls: names and places. -/
import Derived.Test.YtedipingocmmdaaGreatEvG
namespace Go.Proofs.YtedipingocmmdaaGreat.Ev
open Go

/-- Where a named row lies: its block, how many elements there is room for, how many cells an element has. -/
structure Loc where
  blk : Nat
  cap : Nat
  size : Nat
def renA (ρ : Nat → Loc) (a : Addr) : Addr :=
  match a.spot with
  | none => ⟨(ρ a.block).blk, a.off, none⟩
  | some s => if (ρ a.block).cap * (ρ a.block).size = a.off + s then ⟨(ρ a.block).blk, a.off, none⟩ else ⟨(ρ a.block).blk, a.off + s, none⟩
def renC (ρ : Nat → Loc) (a : Addr) (c : Nat) : Nat := if roomy ≤ c then (ρ a.block).cap - (c - roomy) else c
mutual
/-- A value, with places for names. -/
def ren (ρ : Nat → Loc) : Value → Value
  | .pointer (some a) => .pointer (some (renA ρ a))
  | .slice (some a) n c => .slice (some (renA ρ a)) n (renC ρ a c)
  | .agg ⟨cs⟩ => .agg ⟨renL ρ cs⟩
  | .tuple ⟨cs⟩ => .tuple ⟨renL ρ cs⟩
  | .func f ⟨a⟩ ⟨b⟩ => .func f ⟨renL ρ a⟩ ⟨renL ρ b⟩
  | .iface t v => .iface t (ren ρ v)
  | v => v
def renL (ρ : Nat → Loc) : List Value → List Value
  | [] => []
  | v :: r => ren ρ v :: renL ρ r
end
/-- A slice's address and capacity are as they may be. -/
def OkS (ρ : Nat → Loc) (a : Addr) (n c : Nat) : Prop :=
  if roomy ≤ c then (c - roomy) + n ≤ (ρ a.block).cap ∧ 0 < (ρ a.block).size ∧ (match a.spot with
    | none => a.off = (c - roomy) * (ρ a.block).size
    | some s => a.off + s = (c - roomy) * (ρ a.block).size ∧ n = 0)
  else a.spot = none ∨ n = 0
/-- A value of one cell. -/
def one : Value → Prop
  | .agg _ | .tuple _ => False
  | _ => True
mutual
/-- A value names only what is there. -/
def Ok (ρ : Nat → Loc) (U : Nat → Prop) : Value → Prop
  | .pointer (some a) => U a.block ∧ a.spot = none
  | .slice (some a) n c => U a.block ∧ OkS ρ a n c
  | .agg ⟨cs⟩ => OkL ρ U cs ∧ ∀ v ∈ cs, one v
  | .tuple ⟨cs⟩ => OkL ρ U cs
  | .func _ ⟨a⟩ ⟨b⟩ => OkL ρ U a ∧ OkL ρ U b
  | .iface _ v => Ok ρ U v
  | _ => True
def OkL (ρ : Nat → Loc) (U : Nat → Prop) : List Value → Prop
  | [] => True
  | v :: r => Ok ρ U v ∧ OkL ρ U r
end
theorem renL_eq (ρ : Nat → Loc) : ∀ l, renL ρ l = l.map (ren ρ)
  | [] => rfl
  | v :: r => by show ren ρ v :: renL ρ r = _; rw [renL_eq ρ r]; rfl
theorem okL_eq (ρ : Nat → Loc) (U : Nat → Prop) : ∀ l, OkL ρ U l ↔ ∀ v ∈ l, Ok ρ U v
  | [] => ⟨fun _ _ h => (by cases h), fun _ => trivial⟩
  | v :: r => by
    show Ok ρ U v ∧ OkL ρ U r ↔ _
    rw [okL_eq ρ U r]
    simp
/-- More names, at the same places. -/
structure More (ρ : Nat → Loc) (U : Nat → Prop) (ρ' : Nat → Loc) (U' : Nat → Prop) : Prop where
  at_ : ∀ n, U n → ρ' n = ρ n
  up : ∀ n, U n → U' n
theorem More.refl {ρ : Nat → Loc} {U : Nat → Prop} : More ρ U ρ U := ⟨fun _ _ => rfl, fun _ h => h⟩
theorem More.trans {ρ ρ1 ρ2 : Nat → Loc} {U U1 U2 : Nat → Prop} (h : More ρ U ρ1 U1) (h2 : More ρ1 U1 ρ2 U2) : More ρ U ρ2 U2 :=
  ⟨fun n hn => (h2.at_ n (h.up n hn)).trans (h.at_ n hn), fun n hn => h2.up n (h.up n hn)⟩
section
variable {ρ ρ' : Nat → Loc} {U U' : Nat → Prop}
theorem renA_more (hm : More ρ U ρ' U') {a : Addr} (h : U a.block) : renA ρ' a = renA ρ a := by unfold renA; rw [hm.at_ _ h]
mutual
theorem ok_more (hm : More ρ U ρ' U') : ∀ v : Value, Ok ρ U v → Ok ρ' U' v ∧ ren ρ' v = ren ρ v
  | .pointer (some a), h => ⟨⟨hm.up _ h.1, h.2⟩, by show Value.pointer (some (renA ρ' a)) = .pointer (some (renA ρ a)); rw [renA_more hm h.1]⟩
  | .slice (some a) n c, h => by
    have e := hm.at_ _ h.1
    refine ⟨⟨hm.up _ h.1, ?_⟩, ?_⟩
    · have h2 := h.2
      unfold OkS at h2 ⊢
      rw [e]; exact h2
    · show Value.slice (some (renA ρ' a)) n (renC ρ' a c) = .slice (some (renA ρ a)) n (renC ρ a c)
      unfold renC
      rw [renA_more hm h.1, e]
  | .agg ⟨cs⟩, h => by
    obtain ⟨h1, h2⟩ := okL_more hm cs h.1
    exact ⟨⟨h1, h.2⟩, by show Value.agg ⟨renL ρ' cs⟩ = .agg ⟨renL ρ cs⟩; rw [h2]⟩
  | .tuple ⟨cs⟩, h => by
    obtain ⟨h1, h2⟩ := okL_more hm cs h
    exact ⟨h1, by show Value.tuple ⟨renL ρ' cs⟩ = .tuple ⟨renL ρ cs⟩; rw [h2]⟩
  | .func f ⟨a⟩ ⟨b⟩, h => by
    obtain ⟨h1, h2⟩ := okL_more hm a h.1
    obtain ⟨h3, h4⟩ := okL_more hm b h.2
    exact ⟨⟨h1, h3⟩, by show Value.func f ⟨renL ρ' a⟩ ⟨renL ρ' b⟩ = .func f ⟨renL ρ a⟩ ⟨renL ρ b⟩; rw [h2, h4]⟩
  | .iface t v, h => by
    obtain ⟨h1, h2⟩ := ok_more hm v h
    exact ⟨h1, by show Value.iface t (ren ρ' v) = .iface t (ren ρ v); rw [h2]⟩
  | .bool _, _ | .int _ _, _ | .float _ _, _ | .complex _ _ _, _ | .string _, _ | .pointer none, _ | .slice none _ _, _ | .map _, _ | .chan _, _ | .nilFunc, _ | .nilIface, _ => ⟨trivial, rfl⟩
theorem okL_more (hm : More ρ U ρ' U') : ∀ l : List Value, OkL ρ U l → OkL ρ' U' l ∧ renL ρ' l = renL ρ l
  | [], _ => ⟨trivial, rfl⟩
  | v :: r, h => by
    obtain ⟨h1, h2⟩ := ok_more hm v h.1
    obtain ⟨h3, h4⟩ := okL_more hm r h.2
    exact ⟨⟨h1, h3⟩, by show ren ρ' v :: renL ρ' r = ren ρ v :: renL ρ r; rw [h2, h4]⟩
end
end
theorem one_ren (ρ : Nat → Loc) {v : Value} (h : one v) : one (ren ρ v) := by
  cases v with
  | pointer a => cases a <;> trivial
  | slice a n c => cases a <;> trivial
  | agg cs => exact h.elim
  | tuple cs => exact h.elim
  | func f a b => cases a; cases b; trivial
  | _ => trivial
end Go.Proofs.YtedipingocmmdaaGreat.Ev

