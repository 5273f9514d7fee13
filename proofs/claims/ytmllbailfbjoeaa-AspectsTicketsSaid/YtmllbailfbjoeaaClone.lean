/- slices.Clone: a row of the call's own with the same cells. -/
import Derived.Test.YtmllbailfbjoeaaAppend
import Derived.Test.YtmllbailfbjoeaaEq
namespace Go.Proofs.Ytmllbailfbjoeaa
open Go.RowKit Go.Sort

/-- Handed back: a row in new memory that the caller owns. -/
def RetOwn (E : TypeId) (s n : Nat) (xs : List Value) (w : World) (e : Ending) (w' : World) : Prop :=
  ∃ A c, e = .returned (.slice A n c) ∧ w'.ownsRow w.heap.size E s (.slice A n c) n xs ∧ Below w.heap.size w w'

theorem rd_add {w : World} {ad : Addr} {xs : List Value} (h : Rd w (some ad) xs) : ∀ j u, xs[j]? = some u → w.cell? (ad.add j) = some u := by
  intro j u hj
  rcases h with rfl | ⟨b, o, he, _, hc⟩
  · simp at hj
  · injection he with he
    subst he
    have e1 : (Addr.add ⟨b, o, none⟩ j) = ⟨b, o + j, none⟩ := by
      unfold Addr.add; split
      · simp_all
      · rfl
    rw [e1]; exact hc j u hj

theorem own_empty (w : World) (E : TypeId) (s : Nat) : (w.alloc (.cells #[] E)).ownsRow w.heap.size E s (.slice (some ⟨w.heap.size, 0, none⟩) 0 0) 0 [] :=
  ⟨by simp, .inr ⟨w.heap.size, 0, #[], rfl, Nat.le_refl _, heap_alloc_new w _, Nat.le_refl _, by unfold maxLen; omega, by simp, by simp⟩⟩

theorem CloneW_info : (Try.prog.info? 42).map (fun i => (i.zero, i.size, i.bytes)) = some (some (.int .u64 0), 1, 8) := by kernel_rfl

set_option maxHeartbeats 1000000 in
set_option maxRecDepth 100000 in
theorem CloneW_any (A : Option Addr) (n c : Nat) (xs : List Value) (w : World) (hn : n * 8 ≤ 140737488355328) (hx : xs.length = n * 1) (h1 : ∀ u ∈ xs, u.oneCell' = true) (hR : Rd w A xs) :
    Calls Try.prog 94 #[.slice A n c] w (RetOwn 42 1 n xs w) := by
  have HR := Lib.hid hR
  have HX := Lib.hid hx
  have H1 := Lib.hid h1
  clear hR hx h1
  rcases A with _ | ad
  · have hxs : xs = [] := by
      rcases HR.out with h | ⟨b, o, h, _⟩
      · exact h
      · cases h
    obtain rfl : n = 0 := by have := HX.out; rw [hxs] at this; simp at this; omega
    have hnil := fun w => Lib.run_eql_slice_nil (P := Try.prog) w 53 42 none 0 c 0 0 Try.underlying53
    go_enter Try.func94, Try.ntmps94
    go_wp2
    go_ret
    exact ⟨none, 0, rfl, by rw [hxs]; exact own_nil _ _ _ _, Below.refl _ _⟩
  · have hnil := fun w => Lib.run_eql_slice_nil (P := Try.prog) w 53 42 (some ad) n c 0 0 Try.underlying53
    obtain ⟨i0, hi, hz0, hz1, hz2⟩ := info_parts CloneW_info
    have hnm : n ≤ maxLen := by unfold maxLen; omega
    have HI := Lib.hid (And.intro hi (And.intro hz0 (And.intro hz1 (And.intro hz2 hnm))))
    clear hi hz0 hz1 hz2 hnm
    go_enter Try.func94, Try.ntmps94
    go_wp2_with (at_builtin; refine wpList_append_own _ rfl (.tmp 5) (.tmp 6) 53 rfl w.heap.size 42 i0 (.int .u64 0) 1 8 Try.underlying53 HI.out.1 HI.out.2.1 HI.out.2.2.1 HI.out.2.2.2.1 rfl (by decide) (.slice (some ⟨w.heap.size, 0, none⟩) 0 0) 0 [] rfl (own_empty w 42 1) ad n c xs rfl HX.out (rd_add (HR.out.alloc _)) H1.out (by have := HI.out.2.2.2.2; omega) (by omega) (by simp) ?_; intro v' w1 hown1 hg1 hnl1)
    go_ret
    have hown2 : w1.ownsRow w.heap.size 42 1 v' n xs := by simpa using hown1
    have hb := ((Below.refl _ w).alloc (Nat.le_refl _) _).trans ((own_grown (own_empty w 42 1) (by simp) hg1))
    rcases hown2.2 with ⟨rfl, h0⟩ | ⟨g, cap, cur, rfl, _⟩
    · subst h0
      exact ⟨none, 0, rfl, hown2, hb⟩
    · exact ⟨_, _, rfl, hown2, hb⟩

theorem CloneA_info : (Try.prog.info? 44).map (fun i => (i.zero, i.size, i.bytes)) = some (some (accV Acc.none), 7, 56) := by kernel_rfl

set_option maxHeartbeats 1000000 in
set_option maxRecDepth 100000 in
theorem CloneA_any (A : Option Addr) (n c : Nat) (xs : List Value) (w : World) (hn : n * 56 ≤ 140737488355328) (hx : xs.length = n * 7) (h1 : ∀ u ∈ xs, u.oneCell' = true) (hR : Rd w A xs) :
    Calls Try.prog 88 #[.slice A n c] w (RetOwn 44 7 n xs w) := by
  have HR := Lib.hid hR
  have HX := Lib.hid hx
  have H1 := Lib.hid h1
  clear hR hx h1
  rcases A with _ | ad
  · have hxs : xs = [] := by
      rcases HR.out with h | ⟨b, o, h, _⟩
      · exact h
      · cases h
    obtain rfl : n = 0 := by have := HX.out; rw [hxs] at this; simp at this; omega
    have hnil := fun w => Lib.run_eql_slice_nil (P := Try.prog) w 41 44 none 0 c 0 0 Try.underlying41
    go_enter Try.func88, Try.ntmps88
    go_wp2
    go_ret
    exact ⟨none, 0, rfl, by rw [hxs]; exact own_nil _ _ _ _, Below.refl _ _⟩
  · have hnil := fun w => Lib.run_eql_slice_nil (P := Try.prog) w 41 44 (some ad) n c 0 0 Try.underlying41
    obtain ⟨i0, hi, hz0, hz1, hz2⟩ := info_parts CloneA_info
    have hnm : n ≤ maxLen := by unfold maxLen; omega
    have HI := Lib.hid (And.intro hi (And.intro hz0 (And.intro hz1 (And.intro hz2 hnm))))
    clear hi hz0 hz1 hz2 hnm
    go_enter Try.func88, Try.ntmps88
    go_wp2_with (at_builtin; refine wpList_append_own _ rfl (.tmp 5) (.tmp 6) 41 rfl w.heap.size 44 i0 (accV Acc.none) 7 56 Try.underlying41 HI.out.1 HI.out.2.1 HI.out.2.2.1 HI.out.2.2.2.1 rfl (by decide) (.slice (some ⟨w.heap.size, 0, none⟩) 0 0) 0 [] rfl (own_empty w 44 7) ad n c xs rfl HX.out (rd_add (HR.out.alloc _)) H1.out (by have := HI.out.2.2.2.2; omega) (by omega) (by simp) ?_; intro v' w1 hown1 hg1 hnl1)
    go_ret
    have hown2 : w1.ownsRow w.heap.size 44 7 v' n xs := by simpa using hown1
    have hb := ((Below.refl _ w).alloc (Nat.le_refl _) _).trans ((own_grown (own_empty w 44 7) (by simp) hg1))
    rcases hown2.2 with ⟨rfl, h0⟩ | ⟨g, cap, cur, rfl, _⟩
    · subst h0
      exact ⟨none, 0, rfl, hown2, hb⟩
    · exact ⟨_, _, rfl, hown2, hb⟩

end Go.Proofs.Ytmllbailfbjoeaa
