/- The map of nodes that were seen: plain. -/
import Derived.Test.YtedipingocmmdaaGreatRow
import Derived.Maps.OwnSet
import Derived.Maps.RangeWalk
import Derived.Carry
import Derived.Deep.Cut
import Derived.Deep.RegionHeld3
import Derived.Deep.LoopGhost
namespace Go.Proofs.YtedipingocmmdaaGreat
open Go.RowKit Go.Maps

theorem int_law : Keyed Tryz.prog 3 := int_keyed Tryz.underlying3
theorem int_zero (w : World) : (zeroValue 3).run Tryz.prog w = .ok (.int .i64 0) w := by kernel_rfl
/-- The nodes below j were seen once. -/
def Dm (j : Nat) : DataW Unit := .map ((List.range j).map fun (i : Nat) => (Lit.int .i64 (i : Int), .lit (.int .i64 1)))
theorem dm_put {j : Nat} (hj : j < 7) : (Dm j).put (.int .i64 (j : Int)) (.lit (.int .i64 1)) = Dm (j + 1) := by
  have : j = 0 ∨ j = 1 ∨ j = 2 ∨ j = 3 ∨ j = 4 ∨ j = 5 ∨ j = 6 := by omega
  rcases this with rfl | rfl | rfl | rfl | rfl | rfl | rfl <;> rfl
theorem dm_at {j : Nat} (hj : j < 7) (c : Int) (h : (Dm j).atKey (.int .i64 (j : Int)) (.lit (.int .i64 0)) = .lit (.int .i64 c)) : c = 0 := by
  have : j = 0 ∨ j = 1 ∨ j = 2 ∨ j = 3 ∨ j = 4 ∨ j = 5 ∨ j = 6 := by omega
  rcases this with rfl | rfl | rfl | rfl | rfl | rfl | rfl <;> (injection (show DataW.lit (.int .i64 0) = .lit (.int .i64 c) from h) with h; injection h with _ h; exact h.symm)
theorem dm_all {x c : Int} (h : ∀ zd : DataW Unit, (Dm 7).atKey (.int .i64 x) zd = .lit (.int .i64 c)) : c = 1 ∧ 0 ≤ x ∧ x < 7 := by
  have h0 := h .nil
  have e : Dm 7 = .map [(Lit.int .i64 0, .lit (.int .i64 1)), (Lit.int .i64 1, .lit (.int .i64 1)), (Lit.int .i64 2, .lit (.int .i64 1)), (Lit.int .i64 3, .lit (.int .i64 1)), (Lit.int .i64 4, .lit (.int .i64 1)), (Lit.int .i64 5, .lit (.int .i64 1)), (Lit.int .i64 6, .lit (.int .i64 1))] := rfl
  by_cases hx : x = 0 ∨ x = 1 ∨ x = 2 ∨ x = 3 ∨ x = 4 ∨ x = 5 ∨ x = 6
  · refine ⟨?_, by omega, by omega⟩
    rcases hx with rfl | rfl | rfl | rfl | rfl | rfl | rfl <;> (injection (show DataW.lit (.int .i64 1) = .lit (.int .i64 c) from h0) with h; injection h with _ h; exact h.symm)
  · exfalso
    rw [e] at h0
    unfold DataW.atKey at h0
    have hs : ∀ y : Int, x ≠ y → (Lit.int .i64 y).sameKey (.int .i64 x) = false := fun y hy => by
      simp [Lit.sameKey]
      intro h; exact hy h.symm
    have g0 := hs 0 (by omega)
    have g1 := hs 1 (by omega)
    have g2 := hs 2 (by omega)
    have g3 := hs 3 (by omega)
    have g4 := hs 4 (by omega)
    have g5 := hs 5 (by omega)
    have g6 := hs 6 (by omega)
    simp only [List.find?_cons, g0, g1, g2, g3, g4, g5, g6, List.find?_nil] at h0
    cases h0
theorem dm_size : Maps.size (Dm 7) = 7 := rfl
theorem dm_empty : (.map [] : DataW Unit) = Dm 0 := rfl
theorem grown_cell {w w' : World} {row : Option Nat} (hg : w.grownBy w' row) {p : Addr} (hlt : p.block < w.heap.size) (hne : some p.block ≠ row) : w'.cell? p = w.cell? p := World.cell?_of_block (hg.block _ hlt hne)
/-- The map has turned: all else stands. -/
theorem map_turned {w W W' : World} {b : Nat} (hg : W.grownBy W' (some b)) (hB : Below w.heap.size w W) (hb : w.heap.size ≤ b) : Below w.heap.size w W' :=
  hB.trans ((Below.refl _ _).grown hg hB.size (fun k hk => by injection hk with hk; omega))
abbrev seenM (w : World) (mb j : Nat) : Prop := w.ownsMap Tryz.prog 3 (plainElem Tryz.prog 3) mb j (Dm j)
end Go.Proofs.YtedipingocmmdaaGreat

