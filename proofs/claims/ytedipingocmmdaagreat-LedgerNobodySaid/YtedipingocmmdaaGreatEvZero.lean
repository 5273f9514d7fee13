/- What the evaluator tells of calls with a receiver that no call made: nil, or one whose cells are zero. -/
import Derived.Test.YtedipingocmmdaaGreatEvExt
namespace Go.Proofs.YtedipingocmmdaaGreat.Ev
open Go Go.RowKit

noncomputable def noK (_ : Nat) : List (List Value × Value) := []
noncomputable def saysR (H : Mem) (v : Value) (r : C.M Value) : Bool := r false 16 H [] fun u _ _ _ => eqV v u
theorem noK_ok {P : Program} : KnTab P noK := fun f a v h => by cases h
theorem saysR_ok {H : Mem} {v : Value} {f d : Nat} {args : List Value} (h : saysR H v (C.evC tabD noK d f args) = true) : ∃ c H' l, evK tabF noK d f args false 16 H [] = .ok v c H' l := by
  unfold saysR at h
  rw [evC_up] at h
  replace h : (Res.rec false (fun u _ _ _ => eqV v u) (evK tabF noK d f args false 16 H []) : Bool) = true := h
  cases hr : evK tabF noK d f args false 16 H [] with
  | no => rw [hr] at h; cases h
  | ok u c H' l =>
    rw [hr] at h
    have e : v = u := eqV_eq h
    subst e
    exact ⟨c, H', l, rfl⟩
/-- No row is named. -/
theorem flat_calls {f d : Nat} {args : List Value} {v : Value} (ha : args.all flatA = true) (hv : flatA v = true) (h : saysR .leaf v (C.evC tabD noK d f args) = true) (w : World) : Calls Tryz.prog f args.toArray w fun e w' => e = .returned v ∧ Below w.heap.size w w' := by
  obtain ⟨c, H', l, h⟩ := saysR_ok h
  obtain ⟨h1, h2⟩ := flatL_ren (ρ := fun _ => ⟨0, 0, 0⟩) (U := fun _ => False) ha
  obtain ⟨-, h3⟩ := evK_ok tab_ok mixed noK_ok d f args false 16 .leaf [] v c H' l w.heap.size w w _ _ h2 (rel_start w) (fun _ _ _ h => h) h
  rw [h1] at h3
  refine h3.mono ?_
  rintro e w' ⟨ρ', U', -, -, h4, -, rfl⟩
  exact ⟨by rw [(flatA_ren (ρ := ρ') (U := U') hv).1], h4.old⟩
/-- One row is read: its cells name no row. -/
theorem row_calls {f d : Nat} {args cells : List Value} {t : TypeId} {v : Value} {b : Nat} {w : World} (hb : w.heap[b]? = some (.cells cells.toArray t (0, 0))) (hc : cells.all flatB = true) (hv : flatA v = true)
    (ha : ∀ x ∈ args, flatA x = true ∨ x = .pointer (some ⟨0, 0, none⟩)) (h : saysR (.node .leaf (some ⟨t, cells, false⟩) .leaf) v (C.evC tabD noK d f args) = true) :
    Calls Tryz.prog f (args.map fun x => match x with | .pointer (some _) => .pointer (some ⟨b, 0, none⟩) | x => x).toArray w fun e w' => e = .returned v ∧ Below w.heap.size w w' := by
  obtain ⟨c, H', l, h⟩ := saysR_ok h
  have hlt : b < w.heap.size := (Array.getElem?_eq_some_iff.1 hb).1
  have hcell : ∀ x ∈ cells, ren (fun _ => (⟨b, 0, 0⟩ : Loc)) x = x ∧ Ok (fun _ => ⟨b, 0, 0⟩) (fun n => n = 0) x ∧ one x := fun x hx => flat_ren (List.all_eq_true.mp hc x hx)
  have hget : ∀ n y, (Trie.node .leaf (some (⟨t, cells, false⟩ : Blk)) .leaf).get n = some y → n = 0 ∧ y = ⟨t, cells, false⟩ := fun n y hy => by
    replace hy : (Bool.rec (Bool.rec none none (Nat.beq (n % 2) 1)) (some (⟨t, cells, false⟩ : Blk)) (Nat.beq n 0) : Option Blk) = some y := hy
    rcases beq_cases n 0 with ⟨e, h0⟩ | ⟨e, _⟩
    · rw [e] at hy; injection hy with hy; exact ⟨h0, hy.symm⟩
    · rw [e] at hy
      cases hq : Nat.beq (n % 2) 1 <;> rw [hq] at hy <;> cases hy
  have hR : Rel Tryz.prog w.heap.size w (fun _ => ⟨b, 0, 0⟩) (fun n => n = 0) (.node .leaf (some ⟨t, cells, false⟩) .leaf) w := {
    old := .refl _ _
    top := Nat.le_refl _
    at_ := fun n hn => ⟨fun h16 => by omega, hlt⟩
    inj := fun n m x y hn hm _ => (hget n x hn).1.trans (hget m y hm).1.symm
    live := fun n x hn => (hget n x hn).1
    low := fun n hn => by unfold big; omega
    row := fun n x hn => by
      obtain ⟨-, rfl⟩ := hget n x hn
      refine ⟨fun v hv => (hcell v hv).2, [], ?_, fun _ => rfl, fun h => by cases h⟩
      rw [hb, List.append_nil]
      congr 3
      conv => lhs; rw [← List.map_id cells]
      exact List.map_congr_left fun v hv => (hcell v hv).1.symm }
  have hargs : ∀ x ∈ args, Ok (fun _ => (⟨b, 0, 0⟩ : Loc)) (fun n => n = 0) x := fun x hx => by
    rcases ha x hx with h | rfl
    · exact (flatA_ren h).2
    · exact ⟨rfl, rfl⟩
  obtain ⟨-, h3⟩ := evK_ok tab_ok mixed noK_ok d f args false 16 _ [] v c H' l w.heap.size w w _ _ hargs hR (fun n h1 _ h2 => by omega) h
  have e : args.map (ren (fun _ => (⟨b, 0, 0⟩ : Loc))) = args.map fun x => match x with | .pointer (some _) => .pointer (some ⟨b, 0, none⟩) | x => x := List.map_congr_left fun x hx => by
    rcases ha x hx with h | rfl
    · rw [(flatA_ren (ρ := fun _ => ⟨b, 0, 0⟩) (U := fun n => n = 0) h).1]
      split
      · cases h
      · rfl
    · rfl
  rw [e] at h3
  refine h3.mono ?_
  rintro e w' ⟨ρ', U', -, -, h4, -, rfl⟩
  exact ⟨by rw [(flatA_ren (ρ := ρ') (U := U') hv).1], h4.old⟩
end Go.Proofs.YtedipingocmmdaaGreat.Ev

