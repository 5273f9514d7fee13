/- A name out of a table, as the program tells it. -/
import Derived.Test.YtknlhkkpheahlaaDoorNames
import Derived.Deep.DeepCutAuto
import Derived.Deep.RegionHeld3
import Derived.Deep.WholeRow
import Derived.Great.Walk
namespace Go.Proofs.YtknlhkkpheahlaaDoor
open Go.RowKit Go.Sort

theorem tab_cell (w : World) (T : TypeId) (L : List ByteArray) (k : Nat) (hk : k < L.length) : (w.alloc (.cells (L.map Value.string).toArray T)).cell? ⟨w.heap.size, k, none⟩ = some (.string (L.getD k ⟨#[]⟩)) :=
  (Blk.new w T (L.map .string)).cell (i := k) (v := .string (L.getD k ⟨#[]⟩)) (by rw [List.getElem?_map, List.getD, List.getElem?_eq_getElem hk]; rfl)

set_option maxHeartbeats 4000000 in
set_option maxRecDepth 100000 in
theorem codeS_any (e : Int) (w : World) : Calls Tryd.prog 18 #[.int .i64 e] w fun er w' => er = .returned (.string (codeS e)) ∧ Below w.heap.size w w' := by
  have HC := Lib.hid (fun k hk => tab_cell w 88 codesL k hk)
  have HB := Lib.hid ((Below.refl w.heap.size w).alloc (Nat.le_refl _) (.cells (codesL.map Value.string).toArray 88))
  have hsz : w.heap.size < (w.alloc (.cells (codesL.map Value.string).toArray 88)).heap.size := by rw [World.size_alloc]; exact Nat.lt_succ_self _
  have HSZ := Lib.hid hsz
  clear hsz
  go_enter Tryd.func18, Tryd.ntmps18
  go_upto_region 1 with (fail)
  refine wp_region_lit ?_
  refine Great.wpList_readTo rfl (some 4) rfl (.agg (codesL.map Value.string).toArray) (by kernel_rfl) ?_
  refine Great.wpList_allocTo rfl (some 3) rfl (.pointer (some ⟨w.heap.size, 0, none⟩)) (.cells (List.replicate 18 (Value.string ⟨#[]⟩)).toArray 88) (by kernel_rfl) ?_
  refine wpList_store_row rfl 88 (.tmp 3) (.tmp 4) rfl w.heap.size (codesL.map Value.string).toArray rfl rfl 88 (List.replicate 18 (Value.string ⟨#[]⟩)).toArray (heap_alloc_last w _) (by kernel_rfl) (by kernel_rfl) (by kernel_rfl) ?_
  rw [World.setRow_alloc_new]
  generalize (w.alloc (.cells (codesL.map Value.string).toArray 88)) = W at *
  generalize (Value.agg (codesL.map Value.string).toArray) = g4 at *
  have hl := HSZ.out
  by_cases h0 : e < 0
  · have HV := Lib.hid (codeS_out e (.inl h0))
    go_wp2
    go_ret
    exact ⟨by rw [HV.out]; rfl, HB.out⟩
  · by_cases h1 : 18 ≤ e
    · have HV := Lib.hid (codeS_out e (.inr h1))
      go_wp2
      go_ret
      exact ⟨by rw [HV.out]; rfl, HB.out⟩
    · obtain ⟨k, rfl⟩ := Int.eq_ofNat_of_zero_le (show 0 ≤ e by omega)
      have hk : k < 18 := by omega
      have HV := Lib.hid (codeS_in k hk)
      have hx := HC.out k (by rw [codes_len]; exact hk)
      generalize codesL.getD k ⟨#[]⟩ = x at *
      have q0 : (0 : Int) ≤ (k : Int) := by omega
      have q1 : (k : Int) < 18 := by omega
      go_wp2
      go_ret
      exact ⟨by rw [HV.out]; rfl, HB.out⟩

end Go.Proofs.YtknlhkkpheahlaaDoor
