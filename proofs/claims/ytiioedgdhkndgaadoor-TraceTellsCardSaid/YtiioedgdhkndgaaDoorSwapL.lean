/- Accesses set in a row that is owned. -/
import Derived.Test.YtiioedgdhkndgaaDoorRedo2
namespace Go.Proofs.YtiioedgdhkndgaaDoor
open Go.RowKit Go.Sort

theorem own_set {w : World} {base : Nat} {e : TypeId} {s n g : Nat} {c : Nat} {xs : List Value} (h : w.ownsRow base e s (.slice (some ⟨g, 0, none⟩) n c) n xs) (hn : 0 < n) (j : Nat) (u : Value) (hj : j < n * s) :
    (w.setCell ⟨g, j, none⟩ u).ownsRow base e s (.slice (some ⟨g, 0, none⟩) n c) n (xs.set j u) := by
  obtain ⟨g', hg, _, _, _, hs⟩ := own_form h hn
  injection hg with hg
  injection hg with hg
  subst hg
  exact hs j u hj

theorem accs_set : ∀ (l : List Acc) (k : Nat) (y : Acc), k < l.length →
    (((((((accs l).set (k * 7) (.int .i64 y.thread)).set (k * 7 + 1) (.int .i64 y.kind)).set (k * 7 + 2) (.int .i64 y.addr)).set (k * 7 + 3) (.int .u64 y.want)).set (k * 7 + 4) (.int .u64 y.old)).set (k * 7 + 5) (.int .u64 y.now)).set (k * 7 + 6) (.bool y.ok) = accs (l.set k y)
  | a :: l, 0, y, _ => by simp [accs, Acc.cells]
  | a :: l, k + 1, y, h => by
    have ih := accs_set l k y (by simpa using h)
    have e0 : (k + 1) * 7 = a.cells.length + k * 7 := by simp [Acc.cells]; omega
    simp only [accs, List.flatMap_cons, List.set_cons_succ] at *
    rw [e0]
    simp only [Nat.add_assoc]
    rw [← ih]
    simp only [List.set_append_right _ _ (Nat.le_add_right _ _), Nat.add_sub_cancel_left]

theorem own_acc {w : World} {base : Nat} {n g c : Nat} {l : List Acc} (h : w.ownsRow base 74 7 (.slice (some ⟨g, 0, none⟩) n c) n (accs l)) (hl : l.length = n) (k : Nat) (hk : k < n) (y : Acc) :
    (((((((w.setCell ⟨g, k * 7, none⟩ (.int .i64 y.thread)).setCell ⟨g, k * 7 + 1, none⟩ (.int .i64 y.kind)).setCell ⟨g, k * 7 + 2, none⟩ (.int .i64 y.addr)).setCell ⟨g, k * 7 + 3, none⟩ (.int .u64 y.want)).setCell ⟨g, k * 7 + 4, none⟩ (.int .u64 y.old)).setCell ⟨g, k * 7 + 5, none⟩ (.int .u64 y.now)).setCell ⟨g, k * 7 + 6, none⟩ (.bool y.ok)).ownsRow base 74 7 (.slice (some ⟨g, 0, none⟩) n c) n (accs (l.set k y)) := by
  rw [← accs_set l k y (by omega)]
  exact own_set (own_set (own_set (own_set (own_set (own_set (own_set h (by omega) _ _ (by omega)) (by omega) _ _ (by omega)) (by omega) _ _ (by omega)) (by omega) _ _ (by omega)) (by omega) _ _ (by omega)) (by omega) _ _ (by omega)) (by omega) _ _ (by omega)

theorem own_cap {w : World} {base : Nat} {e : TypeId} {s n : Nat} {A : Option Addr} {c : Nat} {xs : List Value} (h : w.ownsRow base e s (.slice A n c) n xs) : n ≤ c := by
  rcases h.2 with ⟨hv, h0⟩ | ⟨g, cap, cur, hv, _, _, hnc, _⟩
  · omega
  · injection hv with _ _ hc
    omega

end Go.Proofs.YtiioedgdhkndgaaDoor
