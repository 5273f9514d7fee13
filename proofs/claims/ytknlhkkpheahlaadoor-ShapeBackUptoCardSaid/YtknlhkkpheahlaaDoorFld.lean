/- The fields of a shape, by name: shape.fields, walked. -/
import Derived.Test.YtknlhkkpheahlaaDoorKeep
import Derived.Test.YtknlhkkpheahlaaDoorStrs
import Derived.BigRegion
import Derived.Deep.RegionHeld3
namespace Go.Proofs.YtknlhkkpheahlaaDoor
open Go.RowKit Go.Sort

def fldNames : List ByteArray := [⟨#[116, 104, 114, 101, 97, 100, 115]⟩, ⟨#[99, 104, 97, 110, 115]⟩, ⟨#[99, 97, 112]⟩, ⟨#[110, 111, 100, 101, 115]⟩, ⟨#[114, 101, 116, 105, 114, 101]⟩, ⟨#[112, 97, 116, 105, 101, 110, 99, 101]⟩, ⟨#[116, 97, 103, 115]⟩, ⟨#[115, 101, 113, 115]⟩, ⟨#[103, 101, 110, 115]⟩]
def fldCells (g : Nat) : List Value := [.string ⟨#[116, 104, 114, 101, 97, 100, 115]⟩, .pointer (some ⟨g, 1, none⟩), .string ⟨#[99, 104, 97, 110, 115]⟩, .pointer (some ⟨g, 2, none⟩), .string ⟨#[99, 97, 112]⟩, .pointer (some ⟨g, 3, none⟩), .string ⟨#[110, 111, 100, 101, 115]⟩, .pointer (some ⟨g, 4, none⟩), .string ⟨#[114, 101, 116, 105, 114, 101]⟩, .pointer (some ⟨g, 5, none⟩), .string ⟨#[112, 97, 116, 105, 101, 110, 99, 101]⟩, .pointer (some ⟨g, 6, none⟩), .string ⟨#[116, 97, 103, 115]⟩, .pointer (some ⟨g, 7, none⟩), .string ⟨#[115, 101, 113, 115]⟩, .pointer (some ⟨g, 8, none⟩), .string ⟨#[103, 101, 110, 115]⟩, .pointer (some ⟨g, 9, none⟩)]

set_option maxHeartbeats 8000000 in
set_option maxRecDepth 100000 in
theorem fields_any (g : Nat) (w : World) :
    Calls Tryd.prog 64 #[.pointer (some ⟨g, 0, none⟩)] w fun e w' => e = .returned (.slice (some ⟨w.heap.size, 0, none⟩) 9 9) ∧ Blk w' w.heap.size 102 (fldCells g) ∧ Below w.heap.size w w' := by
  go_enter Tryd.func64, Tryd.ntmps64
  go_wp2_with fail
  go_region
  go_wp2
  go_ret
  exact ⟨rfl, Blk.new w 102 (fldCells g), below1 w _⟩

theorem fld_name (g : Nat) : ∀ k, k < 9 → (fldCells g)[2 * k]? = some (.string (fldNames.getD k ⟨#[]⟩))
  | 0, _ | 1, _ | 2, _ | 3, _ | 4, _ | 5, _ | 6, _ | 7, _ | 8, _ => rfl
theorem fld_at (g : Nat) : ∀ k, k < 9 → (fldCells g)[2 * k + 1]? = some (.pointer (some ⟨g, k + 1, none⟩))
  | 0, _ | 1, _ | 2, _ | 3, _ | 4, _ | 5, _ | 6, _ | 7, _ | 8, _ => rfl

/-- The place of a field, by its name. -/
def fldIdx (name : ByteArray) : Option Nat := fldNames.findIdx? (fun x => decide (x = name))
theorem fld_some {name : ByteArray} {i : Nat} (h : fldIdx name = some i) : i < 9 ∧ fldNames.getD i ⟨#[]⟩ = name ∧ ∀ k, k < i → fldNames.getD k ⟨#[]⟩ ≠ name := by
  unfold fldIdx at h
  rw [List.findIdx?_eq_some_iff_getElem] at h
  obtain ⟨hi, h1, h2⟩ := h
  have hi9 : i < 9 := hi
  refine ⟨hi9, ?_, fun k hk => ?_⟩
  · rw [List.getD, List.getElem?_eq_getElem hi]; simpa using h1
  · have hk' : k < fldNames.length := Nat.lt_trans hk hi
    rw [List.getD, List.getElem?_eq_getElem hk']; simpa using h2 k hk
theorem fld_none {name : ByteArray} (h : fldIdx name = none) : ∀ k, k < 9 → fldNames.getD k ⟨#[]⟩ ≠ name := by
  intro k hk
  unfold fldIdx at h
  rw [List.findIdx?_eq_none_iff] at h
  have hk' : k < fldNames.length := hk
  rw [List.getD, List.getElem?_eq_getElem hk']
  have := h _ (List.getElem_mem hk')
  simpa using this

end Go.Proofs.YtknlhkkpheahlaaDoor
