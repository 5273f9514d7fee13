/- A play that no call made: what its calls tell. -/
import Derived.Test.YtedipingocmmdaaGreatEvZero
import Derived.Test.YtedipingocmmdaaGreatBase
namespace Go.Proofs.YtedipingocmmdaaGreat
open Go.RowKit

/-- A play that no call made: nil, or one whose cells are zero. -/
def NoPlay (w : World) (p : Value) : Prop :=
  p = .pointer none ∨ ∃ b, p = .pointer (some ⟨b, 0, none⟩) ∧ w.heap[b]? = some (.cells #[.pointer none, .slice none 0 0, .slice none 0 0, .slice none 0 0, .int .i64 0] 90 (0, 0))
theorem NoPlay.below {w w' : World} {p : Value} (h : NoPlay w p) (hb : Below w.heap.size w w') : NoPlay w' p := by
  rcases h with h | ⟨b, h1, h2⟩
  · exact .inl h
  · refine .inr ⟨b, h1, ?_⟩
    rw [hb.block b (Array.getElem?_eq_some_iff.1 h2).1]; exact h2
section
variable {w : World} {p : Value} (h : NoPlay w p)
theorem playArg {args : List Value} {z : Int} (hx : ∀ x ∈ args, x = .pointer (some ⟨0, 0, none⟩) ∨ x = .int .i64 z) : ∀ x ∈ args, Ev.flatA x = true ∨ x = .pointer (some ⟨0, 0, none⟩) := fun x h => by
  rcases hx x h with rfl | rfl
  · exact .inr rfl
  · exact .inl rfl
set_option maxRecDepth 1000000 in
theorem Pick_no (h : NoPlay w p) (z : Int) : Calls Tryz.prog 38 #[p, .int .i64 z] w fun e w' => e = .returned (.int .i64 2) ∧ Below w.heap.size w w' := by
  rcases h with rfl | ⟨b, rfl, hb⟩
  · exact Ev.flat_calls (d := 10) (args := [.pointer none, .int .i64 z]) rfl rfl (by kernel_rfl) w
  · exact Ev.row_calls (d := 10) (args := [.pointer (some ⟨0, 0, none⟩), .int .i64 z]) (cells := [.pointer none, .slice none 0 0, .slice none 0 0, .slice none 0 0, .int .i64 0]) hb rfl rfl (playArg (z := z) (by simp)) (by kernel_rfl)
set_option maxRecDepth 1000000 in
theorem Left_no (h : NoPlay w p) (z : Int) : Calls Tryz.prog 39 #[p, .int .i64 z] w fun e w' => e = .returned (.int .i64 0) ∧ Below w.heap.size w w' := by
  rcases h with rfl | ⟨b, rfl, hb⟩
  · exact Ev.flat_calls (d := 10) (args := [.pointer none, .int .i64 z]) rfl rfl (by kernel_rfl) w
  · exact Ev.row_calls (d := 10) (args := [.pointer (some ⟨0, 0, none⟩), .int .i64 z]) (cells := [.pointer none, .slice none 0 0, .slice none 0 0, .slice none 0 0, .int .i64 0]) hb rfl rfl (playArg (z := z) (by simp)) (by kernel_rfl)
set_option maxRecDepth 1000000 in
theorem Said_no (h : NoPlay w p) (z : Int) : Calls Tryz.prog 40 #[p, .int .i64 z] w fun e w' => e = .returned (.slice none 0 0) ∧ Below w.heap.size w w' := by
  rcases h with rfl | ⟨b, rfl, hb⟩
  · exact Ev.flat_calls (d := 10) (args := [.pointer none, .int .i64 z]) rfl rfl (by kernel_rfl) w
  · exact Ev.row_calls (d := 10) (args := [.pointer (some ⟨0, 0, none⟩), .int .i64 z]) (cells := [.pointer none, .slice none 0 0, .slice none 0 0, .slice none 0 0, .int .i64 0]) hb rfl rfl (playArg (z := z) (by simp)) (by kernel_rfl)
set_option maxRecDepth 1000000 in
theorem Over_no (h : NoPlay w p) : Calls Tryz.prog 41 #[p] w fun e w' => e = .returned (.bool true) ∧ Below w.heap.size w w' := by
  rcases h with rfl | ⟨b, rfl, hb⟩
  · exact Ev.flat_calls (d := 10) (args := [.pointer none]) rfl rfl (by kernel_rfl) w
  · exact Ev.row_calls (d := 10) (args := [.pointer (some ⟨0, 0, none⟩)]) (cells := [.pointer none, .slice none 0 0, .slice none 0 0, .slice none 0 0, .int .i64 0]) hb rfl rfl (playArg (z := 0) (by simp)) (by kernel_rfl)
set_option maxRecDepth 1000000 in
theorem Machine_no (h : NoPlay w p) : Calls Tryz.prog 42 #[p] w fun e w' => e = .returned (.pointer none) ∧ Below w.heap.size w w' := by
  rcases h with rfl | ⟨b, rfl, hb⟩
  · exact Ev.flat_calls (d := 10) (args := [.pointer none]) rfl rfl (by kernel_rfl) w
  · exact Ev.row_calls (d := 10) (args := [.pointer (some ⟨0, 0, none⟩)]) (cells := [.pointer none, .slice none 0 0, .slice none 0 0, .slice none 0 0, .int .i64 0]) hb rfl rfl (playArg (z := 0) (by simp)) (by kernel_rfl)
end

set_option maxHeartbeats 1000000 in
set_option maxRecDepth 100000 in
theorem Run_no {w : World} {p : Value} (h : NoPlay w p) (A : Option Addr) (c : Nat) (l : List Int) (hl : l.length ≤ maxLen) (hA : Rd w A (ints l)) :
    Calls Tryz.prog 37 #[p, .slice A l.length c] w fun e w' => e = .returned (.int .i64 0) ∧ Below w.heap.size w w' := by
  unfold maxLen at hl
  have HP := Lib.hid h
  have HA := Lib.hid hA
  clear h hA
  generalize hn : l.length = n at hl ⊢
  have HN := Lib.hid hn
  clear hn
  go_enter Tryz.func37, Tryz.ntmps37
  go_wp2
  go_loopw [9] (fun i wr => i = .int .i64 0 ∧ Below w.heap.size w wr) (fun _ _ => 0)
  case atStart => exact ⟨rfl, Below.refl _ _⟩
  case round =>
    obtain ⟨rfl, hb⟩ := hrel
    have HB := Lib.hid hb
    clear hb
    by_cases hlt : 0 < n
    · obtain ⟨a1, o1, rfl, hl1, hc1⟩ := HA.out.at_ (by rw [ints_length, HN.out]; omega)
      have x1 : wr.cell? ⟨a1, o1, none⟩ = some (.int .i64 (l.getD 0 0)) := by
        rw [HB.out.cell (p := ⟨a1, o1, none⟩) hl1]; exact hc1 0 _ (ints_at (by rw [HN.out]; exact hlt))
      clear hc1
      have q2 : (0 : Int) < (n : Int) := by omega
      generalize l.getD 0 0 = x at x1
      have HC := Lib.hid (Pick_no (HP.out.below HB.out) x)
      go_wp2_with (go_at_call 38; refine HC.out.mono ?_; rintro e w1 ⟨rfl, hb1⟩)
      go_ret
      exact ⟨rfl, HB.out.trans (hb1.mono HB.out.size)⟩
    · obtain rfl : n = 0 := by omega
      go_wp2
      go_ret
      exact ⟨rfl, HB.out⟩
end Go.Proofs.YtedipingocmmdaaGreat

