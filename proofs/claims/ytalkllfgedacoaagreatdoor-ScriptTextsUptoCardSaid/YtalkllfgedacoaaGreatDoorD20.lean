/- Calls about channels, and of a queue, as csp makes them: walked. -/
import Derived.Test.YtalkllfgedacoaaGreatDoorD14
namespace Go.Proofs.YtalkllfgedacoaaGreatDoor
open Go.RowKit Go.Sort

set_option maxHeartbeats 1000000 in
set_option maxRecDepth 100000 in
theorem CMake_any (a : Int) (w : World) : Calls Tryz.prog 100 #[.int .i64 a] w fun e w' => e = .returned (reqV ⟨1, a, 0, false, none, 0, 0⟩) ∧ Below w.heap.size w w' := by
  go_enter Tryz.func100, Tryz.ntmps100
  go_wp2
  exact bodyPost_ret (v := reqV ⟨1, a, 0, false, none, 0, 0⟩) (ret_cell (g := w.heap.size) rfl rfl (req_load (q := ⟨1, a, 0, false, none, 0, 0⟩) (blk_new rfl))) rfl ⟨rfl, (Below.refl _ _).alloc (Nat.le_refl _) _⟩


set_option maxHeartbeats 1000000 in
set_option maxRecDepth 100000 in
theorem CFree_any (a : Int) (w : World) : Calls Tryz.prog 101 #[.int .i64 a] w fun e w' => e = .returned (reqV ⟨2, a, 0, false, none, 0, 0⟩) ∧ Below w.heap.size w w' := by
  go_enter Tryz.func101, Tryz.ntmps101
  go_wp2
  exact bodyPost_ret (v := reqV ⟨2, a, 0, false, none, 0, 0⟩) (ret_cell (g := w.heap.size) rfl rfl (req_load (q := ⟨2, a, 0, false, none, 0, 0⟩) (blk_new rfl))) rfl ⟨rfl, (Below.refl _ _).alloc (Nat.le_refl _) _⟩


set_option maxHeartbeats 1000000 in
set_option maxRecDepth 100000 in
theorem CClose_any (a : Int) (w : World) : Calls Tryz.prog 102 #[.int .i64 a] w fun e w' => e = .returned (reqV ⟨4, a, 0, false, none, 0, 0⟩) ∧ Below w.heap.size w w' := by
  go_enter Tryz.func102, Tryz.ntmps102
  go_wp2
  exact bodyPost_ret (v := reqV ⟨4, a, 0, false, none, 0, 0⟩) (ret_cell (g := w.heap.size) rfl rfl (req_load (q := ⟨4, a, 0, false, none, 0, 0⟩) (blk_new rfl))) rfl ⟨rfl, (Below.refl _ _).alloc (Nat.le_refl _) _⟩


set_option maxHeartbeats 1000000 in
set_option maxRecDepth 100000 in
theorem CLen_any (a : Int) (w : World) : Calls Tryz.prog 103 #[.int .i64 a] w fun e w' => e = .returned (reqV ⟨5, a, 0, false, none, 0, 0⟩) ∧ Below w.heap.size w w' := by
  go_enter Tryz.func103, Tryz.ntmps103
  go_wp2
  exact bodyPost_ret (v := reqV ⟨5, a, 0, false, none, 0, 0⟩) (ret_cell (g := w.heap.size) rfl rfl (req_load (q := ⟨5, a, 0, false, none, 0, 0⟩) (blk_new rfl))) rfl ⟨rfl, (Below.refl _ _).alloc (Nat.le_refl _) _⟩


set_option maxHeartbeats 1000000 in
set_option maxRecDepth 100000 in
theorem CCap_any (a : Int) (w : World) : Calls Tryz.prog 104 #[.int .i64 a] w fun e w' => e = .returned (reqV ⟨6, a, 0, false, none, 0, 0⟩) ∧ Below w.heap.size w w' := by
  go_enter Tryz.func104, Tryz.ntmps104
  go_wp2
  exact bodyPost_ret (v := reqV ⟨6, a, 0, false, none, 0, 0⟩) (ret_cell (g := w.heap.size) rfl rfl (req_load (q := ⟨6, a, 0, false, none, 0, 0⟩) (blk_new rfl))) rfl ⟨rfl, (Below.refl _ _).alloc (Nat.le_refl _) _⟩


set_option maxHeartbeats 1000000 in
set_option maxRecDepth 100000 in
theorem CCancel_any (a : Int) (b : Int) (w : World) : Calls Tryz.prog 109 #[.int .i64 a, .int .i64 b] w fun e w' => e = .returned (reqV ⟨7, a, b, false, none, 0, 0⟩) ∧ Below w.heap.size w w' := by
  go_enter Tryz.func109, Tryz.ntmps109
  go_wp2
  exact bodyPost_ret (v := reqV ⟨7, a, b, false, none, 0, 0⟩) (ret_cell (g := w.heap.size) rfl rfl (req_load (q := ⟨7, a, b, false, none, 0, 0⟩) (blk_new rfl))) rfl ⟨rfl, (Below.refl _ _).alloc (Nat.le_refl _) _⟩


set_option maxHeartbeats 1000000 in
set_option maxRecDepth 100000 in
theorem CPut_any (b : Int) (w : World) : Calls Tryz.prog 110 #[.int .i64 b] w fun e w' => e = .returned (reqV ⟨8, 0, b, false, none, 0, 0⟩) ∧ Below w.heap.size w w' := by
  go_enter Tryz.func110, Tryz.ntmps110
  go_wp2
  exact bodyPost_ret (v := reqV ⟨8, 0, b, false, none, 0, 0⟩) (ret_cell (g := w.heap.size) rfl rfl (req_load (q := ⟨8, 0, b, false, none, 0, 0⟩) (blk_new rfl))) rfl ⟨rfl, (Below.refl _ _).alloc (Nat.le_refl _) _⟩


set_option maxHeartbeats 1000000 in
set_option maxRecDepth 100000 in
theorem CTake_any  (w : World) : Calls Tryz.prog 111 #[] w fun e w' => e = .returned (reqV ⟨9, 0, 0, false, none, 0, 0⟩) ∧ Below w.heap.size w w' := by
  go_enter Tryz.func111, Tryz.ntmps111
  go_wp2
  exact bodyPost_ret (v := reqV ⟨9, 0, 0, false, none, 0, 0⟩) (ret_cell (g := w.heap.size) rfl rfl (req_load (q := ⟨9, 0, 0, false, none, 0, 0⟩) (blk_new rfl))) rfl ⟨rfl, (Below.refl _ _).alloc (Nat.le_refl _) _⟩

end Go.Proofs.YtalkllfgedacoaaGreatDoor
