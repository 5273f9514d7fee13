/- Halls in memory: rows of one's own of records that hold rows of their own. -/
import Derived.Test.YtieglgahfeecbaaGreatDoorA1
import Derived.Test.YtieglgahfeecbaaGreatDoorA3
import Derived.Test.YtieglgahfeecbaaGreatDoorA2
namespace Go.Proofs.YtieglgahfeecbaaGreatDoor
open Go.RowKit Go.Sort

abbrev wtrV (x : Wtr) : Value := .agg #[.bool x.on, .int .i64 x.ticket, .int .i64 x.seq, .slice x.A x.cs.length x.c]

theorem CloneWt_info : (Tryz.prog.info? 128).map (fun i => (i.zero, i.size, i.bytes)) = some (some (wtrV Wtr.none), 4, 48) := by kernel_rfl

set_option maxHeartbeats 1000000 in
set_option maxRecDepth 100000 in
theorem CloneWt_any (A : Option Addr) (n c : Nat) (xs : List Value) (w : World) (hn : n * 48 ≤ 140737488355328) (hx : xs.length = n * 4) (h1 : ∀ u ∈ xs, u.oneCell' = true) (hR : Rd w A xs) :
    Calls Tryz.prog 191 #[.slice A n c] w (RetOwn 128 4 n xs w) := by
  have HR := Lib.hid hR
  have HX := Lib.hid hx
  have H1 := Lib.hid h1
  clear hR hx h1
  rcases A with _ | ad
  · have hxs : xs = [] := by
      rcases HR.out with h | ⟨b, o, h, _⟩
      · exact h
      · cases h
    obtain rfl : n = 0 := by have := HX.out; rw [hxs] at this; simp at this; omega
    have hnil := fun w => Lib.run_eql_slice_nil (P := Tryz.prog) w 84 128 none 0 c 0 0 Tryz.underlying84
    go_enter Tryz.func191, Tryz.ntmps191
    go_wp2
    go_ret
    exact ⟨none, 0, rfl, by rw [hxs]; exact own_nil _ _ _ _, Below.refl _ _⟩
  · have hnil := fun w => Lib.run_eql_slice_nil (P := Tryz.prog) w 84 128 (some ad) n c 0 0 Tryz.underlying84
    obtain ⟨i0, hi, hz0, hz1, hz2⟩ := info_parts CloneWt_info
    have hnm : n ≤ maxLen := by unfold maxLen; omega
    have HI := Lib.hid (And.intro hi (And.intro hz0 (And.intro hz1 (And.intro hz2 hnm))))
    clear hi hz0 hz1 hz2 hnm
    go_enter Tryz.func191, Tryz.ntmps191
    go_wp2_with (at_builtin; refine wpList_append_own _ rfl (.tmp 5) (.tmp 6) 84 rfl w.heap.size 128 i0 (wtrV Wtr.none) 4 48 Tryz.underlying84 HI.out.1 HI.out.2.1 HI.out.2.2.1 HI.out.2.2.2.1 rfl (by decide) (.slice (some ⟨w.heap.size, 0, none⟩) 0 0) 0 [] rfl (own_empty w 128 4) ad n c xs rfl HX.out (rd_add (HR.out.alloc _)) H1.out (by have := HI.out.2.2.2.2; omega) (by omega) (by simp) ?_; intro v' w1 hown1 hg1 hnl1)
    go_ret
    have hown2 : w1.ownsRow w.heap.size 128 4 v' n xs := by simpa using hown1
    have hb := ((Below.refl _ w).alloc (Nat.le_refl _) _).trans ((own_grown (own_empty w 128 4) (by simp) hg1))
    rcases hown2.2 with ⟨rfl, h0⟩ | ⟨g, cap, cur, rfl, _⟩
    · subst h0
      exact ⟨none, 0, rfl, hown2, hb⟩
    · exact ⟨_, _, rfl, hown2, hb⟩

theorem CloneCh_info : (Tryz.prog.info? 124).map (fun i => (i.zero, i.size, i.bytes)) = some (some (chnV Chn.none), 5, 48) := by kernel_rfl

set_option maxHeartbeats 1000000 in
set_option maxRecDepth 100000 in
theorem CloneCh_any (A : Option Addr) (n c : Nat) (xs : List Value) (w : World) (hn : n * 48 ≤ 140737488355328) (hx : xs.length = n * 5) (h1 : ∀ u ∈ xs, u.oneCell' = true) (hR : Rd w A xs) :
    Calls Tryz.prog 168 #[.slice A n c] w (RetOwn 124 5 n xs w) := by
  have HR := Lib.hid hR
  have HX := Lib.hid hx
  have H1 := Lib.hid h1
  clear hR hx h1
  rcases A with _ | ad
  · have hxs : xs = [] := by
      rcases HR.out with h | ⟨b, o, h, _⟩
      · exact h
      · cases h
    obtain rfl : n = 0 := by have := HX.out; rw [hxs] at this; simp at this; omega
    have hnil := fun w => Lib.run_eql_slice_nil (P := Tryz.prog) w 83 124 none 0 c 0 0 Tryz.underlying83
    go_enter Tryz.func168, Tryz.ntmps168
    go_wp2
    go_ret
    exact ⟨none, 0, rfl, by rw [hxs]; exact own_nil _ _ _ _, Below.refl _ _⟩
  · have hnil := fun w => Lib.run_eql_slice_nil (P := Tryz.prog) w 83 124 (some ad) n c 0 0 Tryz.underlying83
    obtain ⟨i0, hi, hz0, hz1, hz2⟩ := info_parts CloneCh_info
    have hnm : n ≤ maxLen := by unfold maxLen; omega
    have HI := Lib.hid (And.intro hi (And.intro hz0 (And.intro hz1 (And.intro hz2 hnm))))
    clear hi hz0 hz1 hz2 hnm
    go_enter Tryz.func168, Tryz.ntmps168
    go_wp2_with (at_builtin; refine wpList_append_own _ rfl (.tmp 5) (.tmp 6) 83 rfl w.heap.size 124 i0 (chnV Chn.none) 5 48 Tryz.underlying83 HI.out.1 HI.out.2.1 HI.out.2.2.1 HI.out.2.2.2.1 rfl (by decide) (.slice (some ⟨w.heap.size, 0, none⟩) 0 0) 0 [] rfl (own_empty w 124 5) ad n c xs rfl HX.out (rd_add (HR.out.alloc _)) H1.out (by have := HI.out.2.2.2.2; omega) (by omega) (by simp) ?_; intro v' w1 hown1 hg1 hnl1)
    go_ret
    have hown2 : w1.ownsRow w.heap.size 124 5 v' n xs := by simpa using hown1
    have hb := ((Below.refl _ w).alloc (Nat.le_refl _) _).trans ((own_grown (own_empty w 124 5) (by simp) hg1))
    rcases hown2.2 with ⟨rfl, h0⟩ | ⟨g, cap, cur, rfl, _⟩
    · subst h0
      exact ⟨none, 0, rfl, hown2, hb⟩
    · exact ⟨_, _, rfl, hown2, hb⟩

theorem CloneRs_info : (Tryz.prog.info? 42).map (fun i => (i.zero, i.size, i.bytes)) = some (some (rsV Resr.none), 4, 32) := by kernel_rfl

set_option maxHeartbeats 1000000 in
set_option maxRecDepth 100000 in
theorem CloneRs_any (A : Option Addr) (n c : Nat) (xs : List Value) (w : World) (hn : n * 32 ≤ 140737488355328) (hx : xs.length = n * 4) (h1 : ∀ u ∈ xs, u.oneCell' = true) (hR : Rd w A xs) :
    Calls Tryz.prog 163 #[.slice A n c] w (RetOwn 42 4 n xs w) := by
  have HR := Lib.hid hR
  have HX := Lib.hid hx
  have H1 := Lib.hid h1
  clear hR hx h1
  rcases A with _ | ad
  · have hxs : xs = [] := by
      rcases HR.out with h | ⟨b, o, h, _⟩
      · exact h
      · cases h
    obtain rfl : n = 0 := by have := HX.out; rw [hxs] at this; simp at this; omega
    have hnil := fun w => Lib.run_eql_slice_nil (P := Tryz.prog) w 85 42 none 0 c 0 0 Tryz.underlying85
    go_enter Tryz.func163, Tryz.ntmps163
    go_wp2
    go_ret
    exact ⟨none, 0, rfl, by rw [hxs]; exact own_nil _ _ _ _, Below.refl _ _⟩
  · have hnil := fun w => Lib.run_eql_slice_nil (P := Tryz.prog) w 85 42 (some ad) n c 0 0 Tryz.underlying85
    obtain ⟨i0, hi, hz0, hz1, hz2⟩ := info_parts CloneRs_info
    have hnm : n ≤ maxLen := by unfold maxLen; omega
    have HI := Lib.hid (And.intro hi (And.intro hz0 (And.intro hz1 (And.intro hz2 hnm))))
    clear hi hz0 hz1 hz2 hnm
    go_enter Tryz.func163, Tryz.ntmps163
    go_wp2_with (at_builtin; refine wpList_append_own _ rfl (.tmp 5) (.tmp 6) 85 rfl w.heap.size 42 i0 (rsV Resr.none) 4 32 Tryz.underlying85 HI.out.1 HI.out.2.1 HI.out.2.2.1 HI.out.2.2.2.1 rfl (by decide) (.slice (some ⟨w.heap.size, 0, none⟩) 0 0) 0 [] rfl (own_empty w 42 4) ad n c xs rfl HX.out (rd_add (HR.out.alloc _)) H1.out (by have := HI.out.2.2.2.2; omega) (by omega) (by simp) ?_; intro v' w1 hown1 hg1 hnl1)
    go_ret
    have hown2 : w1.ownsRow w.heap.size 42 4 v' n xs := by simpa using hown1
    have hb := ((Below.refl _ w).alloc (Nat.le_refl _) _).trans ((own_grown (own_empty w 42 4) (by simp) hg1))
    rcases hown2.2 with ⟨rfl, h0⟩ | ⟨g, cap, cur, rfl, _⟩
    · subst h0
      exact ⟨none, 0, rfl, hown2, hb⟩
    · exact ⟨_, _, rfl, hown2, hb⟩

theorem CloneI_info : (Tryz.prog.info? 3).map (fun i => (i.zero, i.size, i.bytes)) = some (some (.int .i64 0), 1, 8) := by kernel_rfl

set_option maxHeartbeats 1000000 in
set_option maxRecDepth 100000 in
theorem CloneI_any (A : Option Addr) (n c : Nat) (xs : List Value) (w : World) (hn : n * 8 ≤ 140737488355328) (hx : xs.length = n * 1) (h1 : ∀ u ∈ xs, u.oneCell' = true) (hR : Rd w A xs) :
    Calls Tryz.prog 167 #[.slice A n c] w (RetOwn 3 1 n xs w) := by
  have HR := Lib.hid hR
  have HX := Lib.hid hx
  have H1 := Lib.hid h1
  clear hR hx h1
  rcases A with _ | ad
  · have hxs : xs = [] := by
      rcases HR.out with h | ⟨b, o, h, _⟩
      · exact h
      · cases h
    obtain rfl : n = 0 := by have := HX.out; rw [hxs] at this; simp at this; omega
    have hnil := fun w => Lib.run_eql_slice_nil (P := Tryz.prog) w 22 3 none 0 c 0 0 Tryz.underlying22
    go_enter Tryz.func167, Tryz.ntmps167
    go_wp2
    go_ret
    exact ⟨none, 0, rfl, by rw [hxs]; exact own_nil _ _ _ _, Below.refl _ _⟩
  · have hnil := fun w => Lib.run_eql_slice_nil (P := Tryz.prog) w 22 3 (some ad) n c 0 0 Tryz.underlying22
    obtain ⟨i0, hi, hz0, hz1, hz2⟩ := info_parts CloneI_info
    have hnm : n ≤ maxLen := by unfold maxLen; omega
    have HI := Lib.hid (And.intro hi (And.intro hz0 (And.intro hz1 (And.intro hz2 hnm))))
    clear hi hz0 hz1 hz2 hnm
    go_enter Tryz.func167, Tryz.ntmps167
    go_wp2_with (at_builtin; refine wpList_append_own _ rfl (.tmp 5) (.tmp 6) 22 rfl w.heap.size 3 i0 (.int .i64 0) 1 8 Tryz.underlying22 HI.out.1 HI.out.2.1 HI.out.2.2.1 HI.out.2.2.2.1 rfl (by decide) (.slice (some ⟨w.heap.size, 0, none⟩) 0 0) 0 [] rfl (own_empty w 3 1) ad n c xs rfl HX.out (rd_add (HR.out.alloc _)) H1.out (by have := HI.out.2.2.2.2; omega) (by omega) (by simp) ?_; intro v' w1 hown1 hg1 hnl1)
    go_ret
    have hown2 : w1.ownsRow w.heap.size 3 1 v' n xs := by simpa using hown1
    have hb := ((Below.refl _ w).alloc (Nat.le_refl _) _).trans ((own_grown (own_empty w 3 1) (by simp) hg1))
    rcases hown2.2 with ⟨rfl, h0⟩ | ⟨g, cap, cur, rfl, _⟩
    · subst h0
      exact ⟨none, 0, rfl, hown2, hb⟩
    · exact ⟨_, _, rfl, hown2, hb⟩

end Go.Proofs.YtieglgahfeecbaaGreatDoor

namespace Go.Proofs.YtieglgahfeecbaaGreatDoor
open Go.RowKit Go.Sort

structure Acc where
  (thread kind addr want old now : Int)
  (ok : Bool)
deriving DecidableEq

abbrev accV (a : Acc) : Value := .agg #[.int .i64 a.thread, .int .i64 a.kind, .int .i64 a.addr, .int .u64 a.want, .int .u64 a.old, .int .u64 a.now, .bool a.ok]
def Acc.cells (a : Acc) : List Value := [.int .i64 a.thread, .int .i64 a.kind, .int .i64 a.addr, .int .u64 a.want, .int .u64 a.old, .int .u64 a.now, .bool a.ok]
def accs (l : List Acc) : List Value := l.flatMap Acc.cells

def Acc.none : Acc := ⟨0, 0, 0, 0, 0, 0, false⟩

theorem accs_length (l : List Acc) : (accs l).length = l.length * 7 := by
  induction l with
  | nil => rfl
  | cons a l ih => simp only [accs, List.flatMap_cons, List.length_append, List.length_cons] at *; rw [ih]; simp [Acc.cells]; omega

theorem accs_at {l : List Acc} : ∀ {k : Nat}, k < l.length → ∀ j, j < 7 → (accs l)[k * 7 + j]? = (l.getD k Acc.none).cells[j]? := by
  induction l with
  | nil => intro k h; simp at h
  | cons a l ih =>
    intro k h j hj
    simp only [accs, List.flatMap_cons]
    match k with
    | 0 => rw [List.getElem?_append_left (by simp [Acc.cells]; omega)]; simp
    | k + 1 =>
      rw [List.getElem?_append_right (by simp [Acc.cells]; omega)]
      have := ih (k := k) (by simpa using h) j hj
      simp only [accs] at this
      rw [show (k + 1) * 7 + j - a.cells.length = k * 7 + j by simp [Acc.cells]; omega, this]
      simp

/-- The seven cells of the access number k. -/
theorem acc_cells {w : World} {b o : Nat} {l : List Acc} (hc : ∀ k v, (accs l)[k]? = some v → w.cell? ⟨b, o + k, none⟩ = some v) {k : Nat} (hk : k < l.length) {x : Acc} (hx : l.getD k Acc.none = x) :
    w.cell? ⟨b, o + k * 7, none⟩ = some (.int .i64 x.thread) ∧ w.cell? ⟨b, o + k * 7 + 1, none⟩ = some (.int .i64 x.kind) ∧ w.cell? ⟨b, o + k * 7 + 2, none⟩ = some (.int .i64 x.addr) ∧ w.cell? ⟨b, o + k * 7 + 3, none⟩ = some (.int .u64 x.want) ∧
    w.cell? ⟨b, o + k * 7 + 4, none⟩ = some (.int .u64 x.old) ∧ w.cell? ⟨b, o + k * 7 + 5, none⟩ = some (.int .u64 x.now) ∧ w.cell? ⟨b, o + k * 7 + 6, none⟩ = some (.bool x.ok) := by
  have h := fun j hj v (hv : x.cells[j]? = some v) => hc (k * 7 + j) v (by rw [accs_at hk j hj, hx]; exact hv)
  refine ⟨h 0 (by omega) _ rfl, ?_, ?_, ?_, ?_, ?_, ?_⟩
  · rw [Nat.add_assoc]; exact h 1 (by omega) _ rfl
  · rw [Nat.add_assoc]; exact h 2 (by omega) _ rfl
  · rw [Nat.add_assoc]; exact h 3 (by omega) _ rfl
  · rw [Nat.add_assoc]; exact h 4 (by omega) _ rfl
  · rw [Nat.add_assoc]; exact h 5 (by omega) _ rfl
  · rw [Nat.add_assoc]; exact h 6 (by omega) _ rfl

def chgB (a : Acc) : Bool := a.kind != 1 && (a.kind != 3 || a.ok)
def freeB (a b : Acc) : Bool := a.thread != b.thread && (a.addr != b.addr || !chgB a && !chgB b)

end Go.Proofs.YtieglgahfeecbaaGreatDoor

namespace Go.Proofs.YtieglgahfeecbaaGreatDoor
open Go.RowKit Go.Sort

def words (l : List Int) : List Value := l.map (Value.int .u64)
theorem words_at {l : List Int} {k : Nat} (h : k < l.length) : (words l)[k]? = some (.int .u64 (l.getD k 0)) := by
  simp [words, List.getD, List.getElem?_eq_getElem h]
theorem words_length (l : List Int) : (words l).length = l.length := by simp [words]

theorem eq_of_take {α : Type} [BEq α] [LawfulBEq α] (l r : List α) (n : Nat) (hl : l.length = n) (hr : r.length = n) (h : l.take n = r.take n) : (l == r) = true := by
  rw [List.take_of_length_le (by omega), List.take_of_length_le (by omega)] at h
  simp [h]
theorem take_snoc_eq {α : Type} (l r : List α) (d : α) (k : Nat) (hl : k < l.length) (hr : k < r.length) (h : l.take k = r.take k) (he : l.getD k d = r.getD k d) : l.take (k + 1) = r.take (k + 1) := by
  rw [List.take_succ_eq_append_getElem hl, List.take_succ_eq_append_getElem hr, h]
  simp [List.getD, hl, hr] at he
  rw [he]
theorem ne_of_getD {α : Type} [BEq α] [LawfulBEq α] (l r : List α) (d : α) (k : Nat) (he : ¬ l.getD k d = r.getD k d) : (l == r) = false := by
  rw [beq_eq_false_iff_ne]; rintro rfl; exact he rfl
theorem ne_of_length {α : Type} [BEq α] [LawfulBEq α] (l r : List α) (he : ¬ l.length = r.length) : (l == r) = false := by
  rw [beq_eq_false_iff_ne]; rintro rfl; exact he rfl

end Go.Proofs.YtieglgahfeecbaaGreatDoor

namespace Go.Proofs.YtieglgahfeecbaaGreatDoor
open Go.RowKit Go.Sort

set_option maxHeartbeats 1000000 in
set_option maxRecDepth 100000 in
theorem Ints_any (A B : Option Addr) (c d : Nat) (l r : List Int) (w : World) (hl : l.length ≤ maxLen) (hr : r.length ≤ maxLen) (hA : Rd w A (ints l)) (hB : Rd w B (ints r)) :
    Calls Tryz.prog 27 #[.slice A l.length c, .slice B r.length d] w fun e w' => e = .returned (.bool (l == r)) ∧ Below w.heap.size w w' := by
  unfold maxLen at hl hr
  have HA := Lib.hid hA
  have HB := Lib.hid hB
  clear hA hB
  generalize hn : l.length = n at hl ⊢
  generalize hm : r.length = m at hr ⊢
  have HN := Lib.hid hn
  have HM := Lib.hid hm
  clear hn hm
  by_cases hnm : n = m
  · subst hnm
    go_enter Tryz.func27, Tryz.ntmps27
    go_wp2
    go_loopw [13] (fun i wr => ∃ k : Nat, k ≤ n ∧ i = .int .i64 k ∧ Below w.heap.size w wr ∧ l.take k = r.take k) (fun i _ => n - (intOf i).toNat)
    case atStart => exact ⟨0, Nat.zero_le _, rfl, Below.refl _ _, by simp⟩
    case round =>
      obtain ⟨k, hk, rfl, hb, ht⟩ := hrel
      have HBW := Lib.hid hb
      have HT := Lib.hid ht
      clear hb ht
      by_cases hlt : k < n
      · obtain ⟨a1, o1, rfl, hl1, hc1⟩ := HA.out.at_ (by rw [ints_length, HN.out]; omega)
        obtain ⟨a2, o2, rfl, hl2, hc2⟩ := HB.out.at_ (by rw [ints_length, HM.out]; omega)
        have x1 : wr.cell? ⟨a1, o1 + k, none⟩ = some (.int .i64 (l.getD k 0)) := by
          rw [HBW.out.cell (p := ⟨a1, o1 + k, none⟩) hl1]; exact hc1 k _ (ints_at (by rw [HN.out]; exact hlt))
        have x2 : wr.cell? ⟨a2, o2 + k, none⟩ = some (.int .i64 (r.getD k 0)) := by
          rw [HBW.out.cell (p := ⟨a2, o2 + k, none⟩) hl2]; exact hc2 k _ (ints_at (by rw [HM.out]; exact hlt))
        clear hc1 hc2
        have q1 : (0 : Int) ≤ (k : Int) := by omega
        have q2 : (k : Int) < (n : Int) := by omega
        generalize hx : l.getD k 0 = x at x1
        generalize hy : r.getD k 0 = y at x2
        have HX := Lib.hid hx
        have HY := Lib.hid hy
        clear hx hy
        by_cases hxy : x = y
        · subst hxy
          go_wp2
          go_quiet (fail)
          go_wp2
          refine ⟨⟨k + 1, by omega, by go_num, Below.drewN' HBW.out nq, ?_⟩, by simp [intOf]; omega⟩
          exact take_snoc_eq l r 0 k (by rw [HN.out]; exact hlt) (by rw [HM.out]; exact hlt) HT.out (by rw [HX.out, HY.out])
        · have hne : (x != y) = true := by simp [hxy]
          have HXY := Lib.hid hxy
          clear hxy
          go_wp2
          go_quiet (fail)
          go_wp2
          go_ret
          exact ⟨ret_bool (ne_of_getD l r 0 k (by rw [HX.out, HY.out]; exact HXY.out)).symm, Below.drewN' HBW.out nq⟩
      · go_wp2
        go_ret
        obtain rfl : k = n := by omega
        exact ⟨ret_bool (eq_of_take l r k HN.out HM.out HT.out).symm, HBW.out⟩
  · have h1 : ((n : Int) != (m : Int)) = true := by rw [bne_iff_ne]; omega
    have HNM := Lib.hid hnm
    clear hnm
    go_enter Tryz.func27, Tryz.ntmps27
    go_wp2
    go_ret
    exact ⟨ret_bool (ne_of_length l r (by rw [HN.out, HM.out]; exact HNM.out)).symm, Below.refl _ _⟩

end Go.Proofs.YtieglgahfeecbaaGreatDoor

namespace Go.Proofs.YtieglgahfeecbaaGreatDoor
open Go.RowKit Go.Sort

end Go.Proofs.YtieglgahfeecbaaGreatDoor

namespace Go.Proofs.YtieglgahfeecbaaGreatDoor
open Go.RowKit Go.Sort

def goodB (a : Acc) (size : Int) : Bool :=
  if a.addr < 0 || size ≤ a.addr || a.thread < 0 || 64 ≤ a.thread then false
  else if a.kind == 1 then a.now == a.old && a.ok && a.want == 0
  else if a.kind == 2 || a.kind == 4 then a.ok && a.want == 0
  else if a.kind == 3 then (a.ok == (a.old == a.want)) && (a.ok || a.now == a.old)
  else false

/-- EADDR (5), EFORM (3) or none (0). -/
def fitsE (ws : List Int) (a : Acc) (x : Int) : Int :=
  if a.addr < 0 || (ws.length : Int) ≤ a.addr then 5
  else if !goodB a ws.length || ws.getD a.addr.toNat 0 != x then 3
  else 0

end Go.Proofs.YtieglgahfeecbaaGreatDoor

namespace Go.Proofs.YtieglgahfeecbaaGreatDoor
open Go.RowKit Go.Sort

theorem CloneW_info : (Tryz.prog.info? 95).map (fun i => (i.zero, i.size, i.bytes)) = some (some (.int .u64 0), 1, 8) := by kernel_rfl

set_option maxHeartbeats 1000000 in
set_option maxRecDepth 100000 in
theorem CloneW_any (A : Option Addr) (n c : Nat) (xs : List Value) (w : World) (hn : n * 8 ≤ 140737488355328) (hx : xs.length = n * 1) (h1 : ∀ u ∈ xs, u.oneCell' = true) (hR : Rd w A xs) :
    Calls Tryz.prog 104 #[.slice A n c] w (RetOwn 95 1 n xs w) := by
  have HR := Lib.hid hR
  have HX := Lib.hid hx
  have H1 := Lib.hid h1
  clear hR hx h1
  rcases A with _ | ad
  · have hxs : xs = [] := by
      rcases HR.out with h | ⟨b, o, h, _⟩
      · exact h
      · cases h
    obtain rfl : n = 0 := by have := HX.out; rw [hxs] at this; simp at this; omega
    have hnil := fun w => Lib.run_eql_slice_nil (P := Tryz.prog) w 53 95 none 0 c 0 0 Tryz.underlying53
    go_enter Tryz.func104, Tryz.ntmps104
    go_wp2
    go_ret
    exact ⟨none, 0, rfl, by rw [hxs]; exact own_nil _ _ _ _, Below.refl _ _⟩
  · have hnil := fun w => Lib.run_eql_slice_nil (P := Tryz.prog) w 53 95 (some ad) n c 0 0 Tryz.underlying53
    obtain ⟨i0, hi, hz0, hz1, hz2⟩ := info_parts CloneW_info
    have hnm : n ≤ maxLen := by unfold maxLen; omega
    have HI := Lib.hid (And.intro hi (And.intro hz0 (And.intro hz1 (And.intro hz2 hnm))))
    clear hi hz0 hz1 hz2 hnm
    go_enter Tryz.func104, Tryz.ntmps104
    go_wp2_with (at_builtin; refine wpList_append_own _ rfl (.tmp 5) (.tmp 6) 53 rfl w.heap.size 95 i0 (.int .u64 0) 1 8 Tryz.underlying53 HI.out.1 HI.out.2.1 HI.out.2.2.1 HI.out.2.2.2.1 rfl (by decide) (.slice (some ⟨w.heap.size, 0, none⟩) 0 0) 0 [] rfl (own_empty w 95 1) ad n c xs rfl HX.out (rd_add (HR.out.alloc _)) H1.out (by have := HI.out.2.2.2.2; omega) (by omega) (by simp) ?_; intro v' w1 hown1 hg1 hnl1)
    go_ret
    have hown2 : w1.ownsRow w.heap.size 95 1 v' n xs := by simpa using hown1
    have hb := ((Below.refl _ w).alloc (Nat.le_refl _) _).trans ((own_grown (own_empty w 95 1) (by simp) hg1))
    rcases hown2.2 with ⟨rfl, h0⟩ | ⟨g, cap, cur, rfl, _⟩
    · subst h0
      exact ⟨none, 0, rfl, hown2, hb⟩
    · exact ⟨_, _, rfl, hown2, hb⟩

end Go.Proofs.YtieglgahfeecbaaGreatDoor

namespace Go.Proofs.YtieglgahfeecbaaGreatDoor
open Go.RowKit Go.Sort

theorem own_form {w : World} {base : Nat} {e : TypeId} {s n : Nat} {A : Option Addr} {c : Nat} {xs : List Value} (h : w.ownsRow base e s (.slice A n c) n xs) (hn : 0 < n) :
    ∃ g, A = some ⟨g, 0, none⟩ ∧ base ≤ g ∧ g < w.heap.size ∧ (∀ i, w.frozen? ⟨g, i, none⟩ = false) ∧
      ∀ j u, j < n * s → (w.setCell ⟨g, j, none⟩ u).ownsRow base e s (.slice A n c) n (xs.set j u) := by
  rcases h with ⟨h1, ⟨hv, h0⟩ | ⟨g, cap, cur, hv, hg, hh, hnc, hm, hsz, hx⟩⟩
  · omega
  · injection hv with hA hn' hc
    subst hA
    have hlt : g < w.heap.size := by
      rcases Nat.lt_or_ge g w.heap.size with hlt | hge
      · exact hlt
      · rw [Array.getElem?_eq_none hge] at hh; cases hh
    refine ⟨g, rfl, hg, hlt, fun i => by simp [World.frozen?, hh], fun j u hj => ?_⟩
    refine ⟨by simpa using h1, .inr ⟨g, cap, cur.setIfInBounds j u, by rw [hc], hg, ?_, hnc, hm, by simpa using hsz, ?_⟩⟩
    · simp [World.setCell, Array.getElem?_modify, hh]
    · rw [← hx]
      simp only [Array.toList_setIfInBounds]
      rw [List.take_set]

def redoS (ws : List Int) : List Acc → List Int × Int
  | [] => (ws, 0)
  | a :: l => if fitsE ws a a.old = 0 then redoS (ws.set a.addr.toNat a.now) l else ([], fitsE ws a a.old)

theorem fits_addr {ws : List Int} {a : Acc} {x : Int} (h : fitsE ws a x = 0) : 0 ≤ a.addr ∧ a.addr < ws.length := by
  unfold fitsE at h
  grind

theorem redo_step {ws : List Int} {l : List Acc} {k : Nat} (hk : k < l.length) {x : Acc} (hx : l.getD k Acc.none = x) :
    redoS ws (l.drop k) = if fitsE ws x x.old = 0 then redoS (ws.set x.addr.toNat x.now) (l.drop (k + 1)) else ([], fitsE ws x x.old) := by
  rw [List.drop_eq_getElem_cons hk, redoS]
  simp only [List.getD, List.getElem?_eq_getElem hk, Option.getD_some] at hx
  rw [hx]

theorem words_set (l : List Int) (i : Nat) (x : Int) : (words l).set i (.int .u64 x) = words (l.set i x) := by simp [words, List.map_set]
theorem words_one (l : List Int) : ∀ u ∈ words l, u.oneCell' = true := by
  intro u hu; simp only [words, List.mem_map] at hu; obtain ⟨x, _, rfl⟩ := hu; rfl

/-- Words, and a number of an error, handed back. -/
def RetRedo (r : List Int × Int) (w : World) (e : Ending) (w' : World) : Prop :=
  ∃ A c, e = .returned (.tuple #[.slice A r.1.length c, .int .i64 r.2]) ∧ Rd w' A (words r.1) ∧ Below w.heap.size w w'

end Go.Proofs.YtieglgahfeecbaaGreatDoor

namespace Go.Proofs.YtieglgahfeecbaaGreatDoor
open Go.RowKit Go.Sort

theorem own_set {w : World} {base : Nat} {e : TypeId} {s n g : Nat} {c : Nat} {xs : List Value} (h : w.ownsRow base e s (.slice (some ⟨g, 0, none⟩) n c) n xs) (hn : 0 < n) (j : Nat) (u : Value) (hj : j < n * s) :
    (w.setCell ⟨g, j, none⟩ u).ownsRow base e s (.slice (some ⟨g, 0, none⟩) n c) n (xs.set j u) := by
  obtain ⟨g', hg, _, _, _, hs⟩ := own_form h hn
  injection hg with hg
  injection hg with hg
  subst hg
  exact hs j u hj

theorem accs_set : ∀ (l : List Acc) (k : Nat) (y : Acc), k < l.length →
    (((((((accs l).set (k * 7) (.int .i64 y.thread)).set (k * 7 + 1) (.int .i64 y.kind)).set (k * 7 + 2) (.int .i64 y.addr)).set (k * 7 + 3) (.int .u64 y.want)).set (k * 7 + 4) (.int .u64 y.old)).set (k * 7 + 5) (.int .u64 y.now)).set (k * 7 + 6) (.bool y.ok) = accs (l.set k y)
  | a :: l, 0, y, _ => by simp [accs, Acc.cells]
  | a :: l, k + 1, y, h => by
    have ih := accs_set l k y (by simpa using h)
    have e0 : (k + 1) * 7 = a.cells.length + k * 7 := by simp [Acc.cells]; omega
    simp only [accs, List.flatMap_cons, List.set_cons_succ] at *
    rw [e0]
    simp only [Nat.add_assoc]
    rw [← ih]
    simp only [List.set_append_right _ _ (Nat.le_add_right _ _), Nat.add_sub_cancel_left]

theorem own_cap {w : World} {base : Nat} {e : TypeId} {s n : Nat} {A : Option Addr} {c : Nat} {xs : List Value} (h : w.ownsRow base e s (.slice A n c) n xs) : n ≤ c := by
  rcases h.2 with ⟨hv, h0⟩ | ⟨g, cap, cur, hv, _, _, hnc, _⟩
  · omega
  · injection hv with _ _ hc
    omega

end Go.Proofs.YtieglgahfeecbaaGreatDoor

namespace Go.Proofs.YtieglgahfeecbaaGreatDoor
open Go.RowKit Go.Sort

/-- What a row of one's own looks like. -/
theorem own_blk {w : World} {base : Nat} {e : TypeId} {s n g : Nat} {c : Nat} {xs : List Value} (h : w.ownsRow base e s (.slice (some ⟨g, 0, none⟩) n c) n xs) : ∃ cur, w.heap[g]? = some (.cells cur e (0, 0)) := by
  rcases h.2 with ⟨hv, _⟩ | ⟨g', cap, cur, hv, _, hh, _⟩
  · cases hv
  · injection hv with hA _ _
    injection hA with hA
    injection hA with hA
    subst hA
    exact ⟨cur, hh⟩

/-- Rows of unlike elements lie apart: a store into one leaves the other. -/
theorem own_ty {w : World} {base : Nat} {e e' : TypeId} {s n g : Nat} {v : Value} {xs : List Value} {cur : Array Value} (h : w.ownsRow base e s v n xs) (hg : w.heap[g]? = some (.cells cur e' (0, 0))) (hne : e ≠ e') (i : Nat) (u : Value) :
    (w.setCell ⟨g, i, none⟩ u).ownsRow base e s v n xs := by
  refine ⟨h.1, ?_⟩
  rcases h.2 with h2 | ⟨k, cap, cur2, hv, hb, hh, r⟩
  · exact .inl h2
  · refine .inr ⟨k, cap, cur2, hv, hb, ?_, r⟩
    have hk : k ≠ g := by
      rintro rfl
      rw [hh] at hg
      simp only [Option.some.injEq, Obj.cells.injEq] at hg
      exact hne hg.2.1
    exact (Below.heap_setCell w ⟨g, i, none⟩ u k hk).trans hh

/-- A store below leaves a row of one's own. -/
theorem own_low {w : World} {base : Nat} {e : TypeId} {s n g : Nat} {v : Value} {xs : List Value} (h : w.ownsRow base e s v n xs) (hg : g < base) (i : Nat) (u : Value) :
    (w.setCell ⟨g, i, none⟩ u).ownsRow base e s v n xs := by
  refine ⟨h.1, ?_⟩
  rcases h.2 with h2 | ⟨k, cap, cur2, hv, hb, hh, r⟩
  · exact .inl h2
  · exact .inr ⟨k, cap, cur2, hv, hb, (Below.heap_setCell w ⟨g, i, none⟩ u k (by show k ≠ g; omega)).trans hh, r⟩

/-- A store into a row of one's own. -/
theorem own_put {w : World} {base : Nat} {e : TypeId} {s n g : Nat} {c : Nat} {xs ys : List Value} (h : w.ownsRow base e s (.slice (some ⟨g, 0, none⟩) n c) n xs) (hn : 0 < n) (j : Nat) (u : Value) (hj : j < n * s) (hy : xs.set j u = ys) :
    (w.setCell ⟨g, j, none⟩ u).ownsRow base e s (.slice (some ⟨g, 0, none⟩) n c) n ys := hy ▸ own_set h hn j u hj

theorem own_free {w : World} {base : Nat} {e : TypeId} {s n g : Nat} {c : Nat} {xs : List Value} (h : w.ownsRow base e s (.slice (some ⟨g, 0, none⟩) n c) n xs) (i : Nat) : w.frozen? ⟨g, i, none⟩ = false := by
  obtain ⟨cur, hh⟩ := own_blk h
  simp [World.frozen?, hh]

theorem own_lt {w : World} {base : Nat} {e : TypeId} {s n g : Nat} {c : Nat} {xs : List Value} (h : w.ownsRow base e s (.slice (some ⟨g, 0, none⟩) n c) n xs) : g < w.heap.size := by
  obtain ⟨cur, hh⟩ := own_blk h
  rcases Nat.lt_or_ge g w.heap.size with hlt | hge
  · exact hlt
  · rw [Array.getElem?_eq_none hge] at hh; cases hh

theorem own_base {w : World} {base : Nat} {e : TypeId} {s n g : Nat} {c : Nat} {xs : List Value} (h : w.ownsRow base e s (.slice (some ⟨g, 0, none⟩) n c) n xs) : base ≤ g := own_block h g rfl

theorem own_cellAt {w : World} {base : Nat} {e : TypeId} {s n g : Nat} {c : Nat} {xs : List Value} (h : w.ownsRow base e s (.slice (some ⟨g, 0, none⟩) n c) n xs) : ∀ k v, xs[k]? = some v → w.cell? ⟨g, 0 + k, none⟩ = some v := by
  intro k v hk
  have hr := own_rd h
  rcases hr with rfl | ⟨b, o, he, _, hc⟩
  · simp at hk
  · injection he with he
    injection he with h1 h2
    subst h1 h2
    exact hc k v hk

/-- Calls that wait, as a row that reads so. -/
structure WtsAt (w : World) (A : Option Addr) (n : Nat) (l : List Wtr) : Prop where
  len : l.length = n
  few : n ≤ 1048576
  rd : Rd w A (rows l)
  cs : ∀ x ∈ l, Rd w x.A (rows x.cs)
  csl : ∀ x ∈ l, x.cs.length ≤ 1048576
  nil : ∀ x ∈ l, x.A = none → x.cs.length = 0 ∧ x.c = 0
theorem WtsAt.below {w w' : World} {A : Option Addr} {n : Nat} {l : List Wtr} (h : WtsAt w A n l) (hb : Below w.heap.size w w') : WtsAt w' A n l :=
  ⟨h.len, h.few, h.rd.below hb, fun x hx => (h.cs x hx).below hb, h.csl, h.nil⟩

/-- Calls that wait, in rows of one's own. -/
structure OwnWts (base : Nat) (w : World) (A : Option Addr) (n c : Nat) (l : List Wtr) : Prop where
  row : w.ownsRow base 128 4 (.slice A n c) n (rows l)
  cs : ∀ x ∈ l, w.ownsRow base 100 3 (.slice x.A x.cs.length x.c) x.cs.length (rows x.cs)
theorem OwnWts.len {base : Nat} {w : World} {A : Option Addr} {n c : Nat} {l : List Wtr} (h : OwnWts base w A n c l) : l.length = n := by
  have h1 := h.row.1
  have h2 := rows_length l
  simp only [Cellful.s] at h2
  omega
theorem OwnWts.below {base : Nat} {w w' : World} {A : Option Addr} {n c : Nat} {l : List Wtr} (h : OwnWts base w A n c l) (hb : Below w.heap.size w w') : OwnWts base w' A n c l :=
  ⟨own_below h.row hb, fun x hx => own_below (h.cs x hx) hb⟩
theorem OwnWts.lower {base b : Nat} {w : World} {A : Option Addr} {n c : Nat} {l : List Wtr} (h : OwnWts base w A n c l) (hb : b ≤ base) : OwnWts b w A n c l :=
  ⟨own_lower h.row hb, fun x hx => own_lower (h.cs x hx) hb⟩
theorem OwnWts.at_ {base : Nat} {w : World} {A : Option Addr} {n c : Nat} {l : List Wtr} (h : OwnWts base w A n c l) (hn : n ≤ 1048576) (hc : ∀ x ∈ l, x.cs.length ≤ 1048576) : WtsAt w A n l :=
  ⟨h.len, hn, own_rd h.row, fun x hx => own_rd (h.cs x hx), hc, fun x hx hA => by
    have := own_none (h.cs x hx) hA
    exact ⟨this.1, this.2.1⟩⟩

theorem map_mem_len {l : List Wtr} {pl : List WtP} (h : l.map Wtr.p = pl) {N : Nat} (hp : ∀ x ∈ pl, x.cs.length ≤ N) : ∀ x ∈ l, x.cs.length ≤ N := by
  intro x hx
  exact hp x.p (by rw [← h]; exact List.mem_map_of_mem hx)

/-- Handed back: calls that wait, in new memory. -/
def RetWts (pl : List WtP) (w : World) (e : Ending) (w' : World) : Prop :=
  ∃ A c l, e = .returned (.slice A pl.length c) ∧ l.map Wtr.p = pl ∧ OwnWts w.heap.size w' A pl.length c l ∧ Below w.heap.size w w'
/-- The same, and whether it was done. -/
def RetWtsB (r : List WtP × Bool) (w : World) (e : Ending) (w' : World) : Prop :=
  ∃ A c l, e = .returned (.tuple #[.slice A r.1.length c, .bool r.2]) ∧ l.map Wtr.p = r.1 ∧ OwnWts w.heap.size w' A r.1.length c l ∧ Below w.heap.size w w'

theorem OwnWts.low {base : Nat} {w : World} {A : Option Addr} {n c g : Nat} {l : List Wtr} (h : OwnWts base w A n c l) (hg : g < base) (i : Nat) (u : Value) :
    OwnWts base (w.setCell ⟨g, i, none⟩ u) A n c l := ⟨own_low h.row hg i u, fun x hx => own_low (h.cs x hx) hg i u⟩
theorem OwnWts.box {base : Nat} {w : World} {A : Option Addr} {n c g : Nat} {l : List Wtr} {cur : Array Value} {e' : TypeId} (h : OwnWts base w A n c l) (hg : w.heap[g]? = some (.cells cur e' (0, 0))) (h1 : 128 ≠ e') (h2 : 100 ≠ e') (i : Nat) (u : Value) :
    OwnWts base (w.setCell ⟨g, i, none⟩ u) A n c l := ⟨own_ty h.row hg h1 i u, fun x hx => own_ty (h.cs x hx) hg h2 i u⟩


end Go.Proofs.YtieglgahfeecbaaGreatDoor
