/- A result out of its word: pack.ReadResult and the document's, walked. -/
import Derived.Test.YtknlhkkpheahlaaDoorCsp3
import Derived.Test.YtknlhkkpheahlaaDoorRefRd
namespace Go.Proofs.YtknlhkkpheahlaaDoor
open Go.RowKit Go.Sort

def rrOf (u : Nat) : Resr := ⟨(u : Int) / 17592186044416, (u : Int) / 1099511627776 % 16, (u : Int) / 4294967296 % 256, (u : Int) % 4294967296⟩

theorem rsl_load {w : World} {g : Nat} {r : Resr} (h : Blk w g 27 r.cells) : (loadVar 27 ⟨g, 0, none⟩).run Tryd.prog w = .ok (rsV r) w :=
  run_loadVar_row (P := Tryd.prog) w g 27 27 _ (0, 0) _ h Tryd.underlying27 rfl (by kernel_rfl)

theorem and4 (u : Nat) (h : u < 18446744073709551616) : bits BinOp.and IntKind.u64 (u : Int) 15 = (u : Int) % 16 := by
  have h1 := bits_and_u64_nat u 15 h (by decide)
  have h2 : u &&& 15 = u % 16 := by
    have := Nat.and_two_pow_sub_one_eq_mod u 4
    simpa using this
  rw [h2] at h1
  exact h1.trans (by omega)
theorem and8 (u : Nat) (h : u < 18446744073709551616) : bits BinOp.and IntKind.u64 (u : Int) 255 = (u : Int) % 256 := by
  have h1 := bits_and_u64_nat u 255 h (by decide)
  have h2 : u &&& 255 = u % 256 := by
    have := Nat.and_two_pow_sub_one_eq_mod u 8
    simpa using this
  rw [h2] at h1
  exact h1.trans (by omega)

set_option maxHeartbeats 4000000 in
set_option maxRecDepth 100000 in
theorem ReadResult_any (u : Nat) (hu : u < 18446744073709551616) (w : World) :
    Calls Tryd.prog 49 #[.int .u64 u] w fun e w' => e = .returned (rsV (rrOf u)) ∧ Below w.heap.size w w' := by
  have f1 := and4 (u / 1099511627776) (by omega)
  have f2 := and8 (u / 4294967296) (by omega)
  have f3 := and32 u hu
  rw [show ((u / 1099511627776 : Nat) : Int) = (u : Int) / 1099511627776 by omega] at f1
  rw [show ((u / 4294967296 : Nat) : Int) = (u : Int) / 4294967296 by omega] at f2
  have p1 : 0 ≤ (u : Int) / 17592186044416 ∧ (u : Int) / 17592186044416 < 1048576 := by omega
  have p2 : 0 ≤ (u : Int) / 1099511627776 % 16 ∧ (u : Int) / 1099511627776 % 16 < 16 := by omega
  have p3 : 0 ≤ (u : Int) / 4294967296 % 256 ∧ (u : Int) / 4294967296 % 256 < 256 := by omega
  have p4 : 0 ≤ (u : Int) % 4294967296 ∧ (u : Int) % 4294967296 < 4294967296 := by omega
  obtain ⟨p1a, p1b⟩ := p1
  obtain ⟨p2a, p2b⟩ := p2
  obtain ⟨p3a, p3b⟩ := p3
  obtain ⟨p4a, p4b⟩ := p4
  go_enter Tryd.func49, Tryd.ntmps49
  go_wp2
  refine bodyPost_ret (v := rsV (rrOf u)) (ret_cell (g := w.heap.size) rfl rfl (rsl_load (Blk.new w 27 (rrOf u).cells))) rfl ⟨rfl, ?_⟩
  exact (Below.refl _ _).alloc (Nat.le_refl _) _

set_option maxHeartbeats 4000000 in
set_option maxRecDepth 100000 in
theorem rReadResult_any (u : Nat) (hu : u < 18446744073709551616) (w : World) :
    Calls Tryd.prog 56 #[.int .u64 u] w fun e w' => e = .returned (rsV (rrOf u)) ∧ Below w.heap.size w w' := by
  have d1 : (u : Int) / 4294967296 / 256 = (u : Int) / 1099511627776 := by omega
  have d2 : (u : Int) / 1099511627776 / 16 = (u : Int) / 17592186044416 := by omega
  have p1 : 0 ≤ (u : Int) / 17592186044416 ∧ (u : Int) / 17592186044416 < 1048576 := by omega
  have p2 : 0 ≤ (u : Int) / 1099511627776 % 16 ∧ (u : Int) / 1099511627776 % 16 < 16 := by omega
  have p3 : 0 ≤ (u : Int) / 4294967296 % 256 ∧ (u : Int) / 4294967296 % 256 < 256 := by omega
  have p4 : 0 ≤ (u : Int) % 4294967296 ∧ (u : Int) % 4294967296 < 4294967296 := by omega
  obtain ⟨p1a, p1b⟩ := p1
  obtain ⟨p2a, p2b⟩ := p2
  obtain ⟨p3a, p3b⟩ := p3
  obtain ⟨p4a, p4b⟩ := p4
  go_enter Tryd.func56, Tryd.ntmps56
  go_wp2
  trace_state
  refine bodyPost_ret (v := rsV (rrOf u)) (ret_cell (g := w.heap.size) rfl rfl (rsl_load ((Blk.new w 27 (rrOf u).cells).alloc _))) rfl ⟨rfl, ?_⟩
  exact ((Below.refl _ _).alloc (Nat.le_refl _) _).alloc (by simp) _

end Go.Proofs.YtknlhkkpheahlaaDoor
