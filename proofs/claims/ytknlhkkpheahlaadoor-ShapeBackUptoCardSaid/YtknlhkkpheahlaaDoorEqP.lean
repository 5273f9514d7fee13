/- Rows held against each other: plain words. -/
import Derived.Test.YtknlhkkpheahlaaDoorRow
namespace Go.Proofs.YtknlhkkpheahlaaDoor
open Go.RowKit Go.Sort

def words (l : List Int) : List Value := l.map (Value.int .u64)
theorem words_at {l : List Int} {k : Nat} (h : k < l.length) : (words l)[k]? = some (.int .u64 (l.getD k 0)) := by
  simp [words, List.getD, List.getElem?_eq_getElem h]
theorem words_length (l : List Int) : (words l).length = l.length := by simp [words]

theorem eq_of_take {α : Type} [BEq α] [LawfulBEq α] (l r : List α) (n : Nat) (hl : l.length = n) (hr : r.length = n) (h : l.take n = r.take n) : (l == r) = true := by
  rw [List.take_of_length_le (by omega), List.take_of_length_le (by omega)] at h
  simp [h]
theorem take_snoc_eq {α : Type} (l r : List α) (d : α) (k : Nat) (hl : k < l.length) (hr : k < r.length) (h : l.take k = r.take k) (he : l.getD k d = r.getD k d) : l.take (k + 1) = r.take (k + 1) := by
  rw [List.take_succ_eq_append_getElem hl, List.take_succ_eq_append_getElem hr, h]
  simp [List.getD, hl, hr] at he
  rw [he]
theorem ne_of_getD {α : Type} [BEq α] [LawfulBEq α] (l r : List α) (d : α) (k : Nat) (he : ¬ l.getD k d = r.getD k d) : (l == r) = false := by
  rw [beq_eq_false_iff_ne]; rintro rfl; exact he rfl
theorem ne_of_length {α : Type} [BEq α] [LawfulBEq α] (l r : List α) (he : ¬ l.length = r.length) : (l == r) = false := by
  rw [beq_eq_false_iff_ne]; rintro rfl; exact he rfl

end Go.Proofs.YtknlhkkpheahlaaDoor
