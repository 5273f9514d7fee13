/- A name out of a table, as the program tells it. -/
import Derived.Test.YtknlhkkpheahlaaDoorNameC
import Derived.Deep.DeepCutAuto
import Derived.Deep.RegionHeld3
import Derived.Deep.WholeRow
import Derived.Great.Walk
namespace Go.Proofs.YtknlhkkpheahlaaDoor
open Go.RowKit Go.Sort


set_option maxHeartbeats 4000000 in
set_option maxRecDepth 100000 in
theorem stepS_any (e : Int) (w : World) : Calls Tryd.prog 20 #[.int .i64 e] w fun er w' => er = .returned (.string (stepS e)) ∧ Below w.heap.size w w' := by
  have HC := Lib.hid (fun k hk => tab_cell w 89 stepsL k hk)
  have HB := Lib.hid ((Below.refl w.heap.size w).alloc (Nat.le_refl _) (.cells (stepsL.map Value.string).toArray 89))
  have hsz : w.heap.size < (w.alloc (.cells (stepsL.map Value.string).toArray 89)).heap.size := by rw [World.size_alloc]; exact Nat.lt_succ_self _
  have HSZ := Lib.hid hsz
  clear hsz
  go_enter Tryd.func20, Tryd.ntmps20
  go_upto_region 1 with (fail)
  refine wp_region_lit ?_
  refine Great.wpList_readTo rfl (some 4) rfl (.agg (stepsL.map Value.string).toArray) (by kernel_rfl) ?_
  refine Great.wpList_allocTo rfl (some 3) rfl (.pointer (some ⟨w.heap.size, 0, none⟩)) (.cells (List.replicate 39 (Value.string ⟨#[]⟩)).toArray 89) (by kernel_rfl) ?_
  refine wpList_store_row rfl 89 (.tmp 3) (.tmp 4) rfl w.heap.size (stepsL.map Value.string).toArray rfl rfl 89 (List.replicate 39 (Value.string ⟨#[]⟩)).toArray (heap_alloc_last w _) (by kernel_rfl) (by kernel_rfl) (by kernel_rfl) ?_
  rw [World.setRow_alloc_new]
  generalize (w.alloc (.cells (stepsL.map Value.string).toArray 89)) = W at *
  generalize (Value.agg (stepsL.map Value.string).toArray) = g4 at *
  have hl := HSZ.out
  by_cases h0 : e < 0
  · have HV := Lib.hid (stepS_out e (.inl h0))
    go_wp2
    go_ret
    exact ⟨by rw [HV.out]; rfl, HB.out⟩
  · by_cases h1 : 39 ≤ e
    · have HV := Lib.hid (stepS_out e (.inr h1))
      go_wp2
      go_ret
      exact ⟨by rw [HV.out]; rfl, HB.out⟩
    · obtain ⟨k, rfl⟩ := Int.eq_ofNat_of_zero_le (show 0 ≤ e by omega)
      have hk : k < 39 := by omega
      have HV := Lib.hid (stepS_in k hk)
      have hx := HC.out k (by rw [steps_len]; exact hk)
      generalize stepsL.getD k ⟨#[]⟩ = x at *
      have q0 : (0 : Int) ≤ (k : Int) := by omega
      have q1 : (k : Int) < 39 := by omega
      go_wp2
      go_ret
      exact ⟨by rw [HV.out]; rfl, HB.out⟩

end Go.Proofs.YtknlhkkpheahlaaDoor
