/- Rows of strings. -/
import Derived.Test.YtknlhkkpheahlaaDoorGen
namespace Go.Proofs.YtknlhkkpheahlaaDoor
open Go.RowKit Go.Sort

instance : Cellful ByteArray where
  cells := fun a => [.string a]
  s := 1
  dflt := ⟨#[]⟩
  len := fun _ => rfl
  one := fun a u hu => by
    simp only [List.mem_cons, List.not_mem_nil, or_false] at hu
    subst hu; rfl

theorem str_info : (Tryd.prog.info? 9).map (fun i => (i.zero, i.size, i.bytes)) = some (some (.string ⟨#[]⟩), 1, 16) := by kernel_rfl

theorem own_new {w : World} {base : Nat} {e : TypeId} {s n : Nat} {v : Value} {xs : List Value} (h : w.ownsRow base e s v n xs) {g : Nat} (hg : w.heap.size ≤ g) : some g ≠ v.ownBlock := by
  rcases h.2 with ⟨rfl, _⟩ | ⟨b, cap, cur, rfl, _, hh, _⟩
  · simp [Value.ownBlock]
  · simp only [Value.ownBlock, ne_eq, Option.some.injEq]
    rcases Nat.lt_or_ge b w.heap.size with h' | h'
    · omega
    · rw [Array.getElem?_eq_none h'] at hh; cases hh

theorem strs_cell {w : World} {A : Option Addr} {l : List ByteArray} (h : Rd w A (rows l)) (hne : l ≠ []) : ∃ b o, A = some ⟨b, o, none⟩ ∧ b < w.heap.size ∧ ∀ j x, l[j]? = some x → w.cell? ⟨b, o + j, none⟩ = some (.string x) := by
  obtain ⟨b, o, h1, h2, h3⟩ := h.at_ (by rw [rows_length]; exact Nat.mul_pos (List.length_pos_iff.2 hne) (by decide))
  refine ⟨b, o, h1, h2, fun j x hj => h3 j _ ?_⟩
  have hl : j < l.length := (List.getElem?_eq_some_iff.1 hj).1
  have h4 := rows_at (l := l) hl 0 (by decide)
  have e1 : (Cellful.s (α := ByteArray)) = 1 := rfl
  rw [e1, Nat.mul_one, Nat.add_zero] at h4
  have e2 : l.getD j Cellful.dflt = x := by simp [List.getD, hj]
  rw [h4, e2]; rfl

end Go.Proofs.YtknlhkkpheahlaaDoor
