/- What comes in is tame: numbers, and slices that lie in the world. -/
import Derived.Test.YtedipingocmmdaaGreatEvExt
import Derived.Test.YtedipingocmmdaaGreatClose
import Derived.Carry
namespace Go.Proofs.YtedipingocmmdaaGreat.Ev
open Go Go.RowKit

def tameT (P : Program) (t : TypeId) : Bool := match P.underlying t with
  | some (.int _) | some .bool | some (.slice _) => true
  | _ => false
theorem tame_cell {P : Program} {w : World} {base : Nat} {t : TypeId} {v : Value} (ht : tameT P t = true) (h : Cell.okWide P w .any base t v) : tame w v := by
  unfold tameT at ht
  unfold Cell.okWide at h
  cases hu : P.underlying t with
  | none => rw [hu] at ht; cases ht
  | some d =>
    rw [hu] at ht h
    cases d <;> first | cases ht | skip
    · have h : Cell.ok P w .any base t v := h
      unfold Cell.ok at h
      rw [hu] at h
      cases v <;> first | exact trivial | exact h.elim
    · have h : Cell.ok P w .any base t v := h
      unfold Cell.ok at h
      rw [hu] at h
      cases v <;> first | exact trivial | exact h.elim
    · have h : Cell.ok P w .any base t v := h
      unfold Cell.ok at h
      rw [hu] at h
      cases v with
      | slice a l c => cases a with
        | none => exact trivial
        | some a =>
          obtain ⟨h1, h2, _, h3, row, cells, h4, _⟩ := h
          refine ⟨h3, ?_, ?_⟩
          · unfold World.shape? at h4
            cases hb : w.heap[a.block]? with
            | none => rw [hb] at h4; cases h4
            | some o => exact (Array.getElem?_eq_some_iff.1 hb).1
          · have : IntKind.i64.max = 9223372036854775807 := by decide
            unfold roomy; omega
      | _ => exact h.elim
/-- The cells of a struct that came in. -/
theorem tame_row {P : Program} {w : World} {base : Nat} {t : TypeId} {cs : Array Value} {ts : List TypeId} (hts : P.cellTypes P.depth t = some ts) (hall : ts.all (tameT P) = true) (h : Row.okWide P w .any base t cs) : ∀ v ∈ cs.toList, tame w v := by
  obtain ⟨ts', h1, _, h2⟩ := h
  rw [hts] at h1
  injection h1 with h1
  subst h1
  intro v hv
  obtain ⟨i, hi⟩ := List.getElem?_of_mem hv
  obtain ⟨u, hu, hc⟩ := h2 i v (by simpa using hi)
  exact tame_cell (List.all_eq_true.mp hall u (List.mem_of_getElem? hu)) hc
end Go.Proofs.YtedipingocmmdaaGreat.Ev

