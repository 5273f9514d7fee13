/- The stable sort of a row of numbers, from below: two ranges exchanged, a rotation. -/
import Derived.Test.YtmllbailfbjoeaaSwapL
import Derived.Test.YtmllbailfbjoeaaIndexFn
namespace Go.Proofs.Ytmllbailfbjoeaa
open Go.RowKit Go.Sort

/-- The row at block g, of n numbers xs, is the call's own. -/
def RowI (base g n c : Nat) (w : World) (xs : List Int) : Prop := w.ownsRow base 3 1 (.slice (some ⟨g, 0, none⟩) n c) n (ints xs) ∧ xs.length = n

theorem RowI.cell {base g n c : Nat} {w : World} {xs : List Int} (h : RowI base g n c w xs) {k : Nat} (hk : k < n) : w.cell? ⟨g, k, none⟩ = some (.int .i64 (xs.getD k 0)) := by
  obtain ⟨b, o, he, _, hc⟩ := (own_rd h.1).at_ (by rw [ints_length, h.2]; omega)
  injection he with he
  injection he with h1 h2
  subst h1 h2
  have := hc k _ (ints_at (by rw [h.2]; exact hk))
  rwa [Nat.zero_add] at this
theorem RowI.lt {base g n c : Nat} {w : World} {xs : List Int} (h : RowI base g n c w xs) (hn : 0 < n) : g < w.heap.size := by
  obtain ⟨g', he, _, hl, _⟩ := own_form h.1 hn
  injection he with he
  injection he with h1
  subst h1
  exact hl
theorem RowI.base {base g n c : Nat} {w : World} {xs : List Int} (h : RowI base g n c w xs) (hn : 0 < n) : base ≤ g := by
  obtain ⟨g', he, hb, _⟩ := own_form h.1 hn
  injection he with he
  injection he with h1
  subst h1
  exact hb
theorem RowI.frozen {base g n c : Nat} {w : World} {xs : List Int} (h : RowI base g n c w xs) {k : Nat} (hk : k < n) : w.frozen? ⟨g, k, none⟩ = false := by
  obtain ⟨g', he, _, _, hf, _⟩ := own_form h.1 (by omega)
  injection he with he
  injection he with h1
  subst h1
  exact hf k
theorem RowI.set_ {base g n c : Nat} {w : World} {xs : List Int} (h : RowI base g n c w xs) {k : Nat} (hk : k < n) (z : Int) : RowI base g n c (w.setCell ⟨g, k, none⟩ (.int .i64 z)) (xs.set k z) := by
  refine ⟨?_, by simpa using h.2⟩
  have := own_set h.1 (by omega) k (.int .i64 z) (by omega)
  rwa [ints_set] at this
theorem RowI.drew {base g n c : Nat} {w : World} {xs : List Int} (h : RowI base g n c w xs) : RowI base g n c w.drew xs := h
theorem RowI.below {base g n c : Nat} {w w' : World} {xs : List Int} (h : RowI base g n c w xs) (hb : Below w.heap.size w w') : RowI base g n c w' xs := ⟨own_below h.1 hb, h.2⟩

/-- xs with the places i and j exchanged. -/
def exch (xs : List Int) (i j : Nat) : List Int := (xs.set i (xs.getD j 0)).set j (xs.getD i 0)
theorem exch_length (xs : List Int) (i j : Nat) : (exch xs i j).length = xs.length := by simp [exch]

/-- The places a.. and b.. exchanged, k of them. -/
def swr (xs : List Int) (a b : Nat) : Nat → List Int
  | 0 => xs
  | k + 1 => exch (swr xs a b k) (a + k) (b + k)
theorem swr_length (xs : List Int) (a b k : Nat) : (swr xs a b k).length = xs.length := by
  induction k with
  | zero => rfl
  | succ k ih => simp [swr, exch_length, ih]

set_option maxHeartbeats 2000000 in
set_option maxRecDepth 100000 in
theorem swapRange_nat (base g n c a b k : Nat) (f : Value) (xs : List Int) (w : World) (hn : n ≤ 1048576) (ha : a + k ≤ n) (hb : b + k ≤ n) (hR : RowI base g n c w xs) :
    Calls Try.prog 136 #[.slice (some ⟨g, 0, none⟩) n c, .int .i64 a, .int .i64 b, .int .i64 k, f] w fun e w' => e = .returned (.tuple #[]) ∧ RowI base g n c w' (swr xs a b k) ∧ Only g w w' := by
  have HR := Lib.hid hR
  clear hR
  go_enter Try.func136, Try.ntmps136
  go_wp2
  go_loopw [10] (fun i wr => ∃ j : Nat, j ≤ k ∧ i = .int .i64 j ∧ RowI base g n c wr (swr xs a b j) ∧ Only g w wr) (fun i _ => k - (intOf i).toNat)
  case atStart => exact ⟨0, Nat.zero_le _, rfl, HR.out, Only.refl _ _⟩
  case round =>
    obtain ⟨j, hj, rfl, hr, ho⟩ := hrel
    have HRR := Lib.hid hr
    have HO := Lib.hid ho
    clear hr ho
    by_cases hlt : j < k
    · have x1 := HRR.out.cell (k := a + j) (by omega)
      have x2 := HRR.out.cell (k := b + j) (by omega)
      have f1 := HRR.out.frozen (k := a + j) (by omega)
      have f2 := HRR.out.frozen (k := b + j) (by omega)
      have hgl := HRR.out.lt (by omega)
      have q1 : ((a : Int) + (j : Int)).toNat = a + j := by omega
      have q2 : ((b : Int) + (j : Int)).toNat = b + j := by omega
      have q3 : (0 : Int) ≤ (a : Int) + (j : Int) := by omega
      have q4 : (0 : Int) ≤ (b : Int) + (j : Int) := by omega
      have q5 : (a : Int) + (j : Int) < (n : Int) := by omega
      have q6 : (b : Int) + (j : Int) < (n : Int) := by omega
      generalize hx : (swr xs a b j).getD (a + j) 0 = x at *
      generalize hy : (swr xs a b j).getD (b + j) 0 = y at *
      have HX := Lib.hid hx
      have HY := Lib.hid hy
      clear hx hy
      have hy1 := (HRR.out.set_ (k := a + j) (by omega) y).cell (k := b + j) (by omega)
      have hy2 := (HRR.out.set_ (k := a + j) (by omega) y).frozen (k := b + j) (by omega)
      have HE := Lib.hid ((HRR.out.set_ (k := a + j) (by omega) y).set_ (k := b + j) (by omega) x)
      have HOE := Lib.hid ((HO.out.set_ (a + j) (.int .i64 y)).set_ (b + j) (.int .i64 x))
      generalize ((swr xs a b j).set (a + j) y).getD (b + j) 0 = v' at hy1
      go_wp2
      go_region
      generalize (wr.setCell ⟨g, a + j, none⟩ (.int .i64 y)).setCell ⟨g, b + j, none⟩ (.int .i64 x) = w2 at *
      clear hy1 hy2 x1 x2 f1 f2
      go_wp2
      refine ⟨⟨j + 1, by omega, by go_num, ?_, HOE.out.drew⟩, by simp [intOf]; omega⟩
      rw [swr, exch, HX.out, HY.out]
      exact HE.out.drew
    · go_wp2
      go_end0
      obtain rfl : j = k := by omega
      exact ⟨rfl, HRR.out, HO.out⟩

theorem swapRange_int (base g n c a b k : Nat) (f : Value) (xs : List Int) (w : World) (A B K : Int) (eA : A = a) (eB : B = b) (eK : K = k) (hn : n ≤ 1048576) (ha : a + k ≤ n) (hb : b + k ≤ n) (hR : RowI base g n c w xs) :
    Calls Try.prog 136 #[.slice (some ⟨g, 0, none⟩) n c, .int .i64 A, .int .i64 B, .int .i64 K, f] w fun e w' => e = .returned (.tuple #[]) ∧ RowI base g n c w' (swr xs a b k) ∧ Only g w w' := by
  subst eA eB eK
  exact swapRange_nat base g n c a b k f xs w hn ha hb hR

theorem exch_get (xs : List Int) (i j x : Nat) (hi : i < xs.length) (hj : j < xs.length) : (exch xs i j)[x]? = if x = j then xs[i]? else if x = i then xs[j]? else xs[x]? := by
  unfold exch
  simp only [List.getElem?_set, List.length_set, List.getD, List.getElem?_eq_getElem hi, List.getElem?_eq_getElem hj, Option.getD_some]
  by_cases h1 : j = x
  · subst h1; simp [hj]
  · by_cases h2 : i = x
    · subst h2; simp [h1, hi]; intro h; exact absurd h.symm h1
    · rw [if_neg h1, if_neg h2, if_neg (fun h => h1 h.symm), if_neg (fun h => h2 h.symm)]

theorem swr_get (xs : List Int) (a b : Nat) : ∀ k, a + k ≤ b → b + k ≤ xs.length → ∀ x, (swr xs a b k)[x]? = if a ≤ x ∧ x < a + k then xs[b + (x - a)]? else if b ≤ x ∧ x < b + k then xs[a + (x - b)]? else xs[x]?
  | 0, _, _, x => by
    simp only [swr]
    rw [if_neg (by omega), if_neg (by omega)]
  | k + 1, h1, h2, x => by
    have ih := swr_get xs a b k (by omega) (by omega)
    have hl := swr_length xs a b k
    simp only [swr]
    rw [exch_get _ _ _ _ (by omega) (by omega), ih (a + k), ih (b + k), ih x]
    by_cases e1 : x = b + k
    · subst e1
      rw [if_pos rfl, if_neg (by omega), if_neg (by omega), if_neg (by omega), if_pos (by omega)]
      congr 1; omega
    · rw [if_neg e1]
      by_cases e2 : x = a + k
      · subst e2
        rw [if_pos rfl, if_neg (by omega), if_neg (by omega), if_pos (by omega)]
        congr 1; omega
      · rw [if_neg e2]
        repeat' split
        all_goals first | rfl | omega | (congr 1; omega)

/-- The ranges a..m and m..b have changed places. -/
def rot (xs : List Int) (a m b : Nat) : List Int := (List.range xs.length).map fun x => if a ≤ x ∧ x < a + (b - m) then xs.getD (m + (x - a)) 0 else if a + (b - m) ≤ x ∧ x < b then xs.getD (x - (b - m)) 0 else xs.getD x 0

theorem rot_length (xs : List Int) (a m b : Nat) : (rot xs a m b).length = xs.length := by simp [rot]

theorem rot_get (xs : List Int) (a m b x : Nat) (h1 : a ≤ m) (h2 : m ≤ b) (h3 : b ≤ xs.length) : (rot xs a m b)[x]? = if a ≤ x ∧ x < a + (b - m) then xs[m + (x - a)]? else if a + (b - m) ≤ x ∧ x < b then xs[x - (b - m)]? else xs[x]? := by
  unfold rot
  rcases Nat.lt_or_ge x xs.length with h | h
  · rw [List.getElem?_map, List.getElem?_range h]
    simp only [Option.map_some]
    have g : ∀ y, y < xs.length → some (xs.getD y 0) = xs[y]? := fun y hy => by simp [List.getD, hy]
    split
    · exact g _ (by omega)
    · split
      · exact g _ (by omega)
      · exact g _ h
  · rw [List.getElem?_eq_none (by simpa using h), if_neg (by omega), if_neg (by omega), List.getElem?_eq_none h]

theorem rot_step1 (ys : List Int) (m i j : Nat) (h1 : j < i) (h2 : i ≤ m) (h3 : m + j ≤ ys.length) : rot (swr ys (m - i) m j) (m - i + j) m (m + j) = rot ys (m - i) m (m + j) := by
  have hl := swr_length ys (m - i) m j
  apply List.ext_getElem?
  intro x
  rw [rot_get _ _ _ _ _ (by omega) (by omega) (by omega), rot_get _ _ _ _ _ (by omega) (by omega) (by omega)]
  simp only [swr_get ys (m - i) m j (by omega) (by omega)]
  repeat' split
  all_goals first | rfl | omega | (congr 1; omega)

theorem rot_step2 (ys : List Int) (m i j : Nat) (h1 : i < j) (h2 : i ≤ m) (h3 : m + j ≤ ys.length) : rot (swr ys (m - i) (m + j - i) i) (m - i) m (m + j - i) = rot ys (m - i) m (m + j) := by
  have hl := swr_length ys (m - i) (m + j - i) i
  apply List.ext_getElem?
  intro x
  rw [rot_get _ _ _ _ _ (by omega) (by omega) (by omega), rot_get _ _ _ _ _ (by omega) (by omega) (by omega)]
  simp only [swr_get ys (m - i) (m + j - i) i (by omega) (by omega)]
  repeat' split
  all_goals first | rfl | omega | (congr 1; omega)

theorem rot_step3 (ys : List Int) (m i : Nat) (h2 : i ≤ m) (h3 : m + i ≤ ys.length) : swr ys (m - i) m i = rot ys (m - i) m (m + i) := by
  apply List.ext_getElem?
  intro x
  rw [rot_get _ _ _ _ _ (by omega) (by omega) (by omega)]
  simp only [swr_get ys (m - i) m i (by omega) (by omega)]
  repeat' split
  all_goals first | rfl | omega | (congr 1; omega)

set_option maxHeartbeats 2000000 in
set_option maxRecDepth 100000 in
theorem rotate_nat (base g n c a m b : Nat) (f : Value) (xs : List Int) (w : World) (hn : n ≤ 1048576) (ha : a < m) (hm : m < b) (hb : b ≤ n) (hR : RowI base g n c w xs) :
    Calls Try.prog 132 #[.slice (some ⟨g, 0, none⟩) n c, .int .i64 a, .int .i64 m, .int .i64 b, f] w fun e w' => e = .returned (.tuple #[]) ∧ RowI base g n c w' (rot xs a m b) ∧ Only g w w' := by
  have HR := Lib.hid hR
  clear hR
  go_enter Try.func132, Try.ntmps132
  go_wp2
  go_loopw [10, 11] (fun u v wr => ∃ (i j : Nat) (ys : List Int), 1 ≤ i ∧ i ≤ m ∧ 1 ≤ j ∧ m + j ≤ n ∧ u = .int .i64 i ∧ v = .int .i64 j ∧ RowI base g n c wr ys ∧ Only g w wr ∧ rot ys (m - i) m (m + j) = rot xs a m b) (fun u v _ => (intOf u).toNat + (intOf v).toNat)
  case atStart => exact ⟨m - a, b - m, xs, by omega, by omega, by omega, by omega, by go_num, by go_num, HR.out, Only.refl _ _, by rw [show m - (m - a) = a by omega, show m + (b - m) = b by omega]⟩
  case round =>
    obtain ⟨i, j, ys, hi1, hi2, hj1, hj2, rfl, rfl, hr, ho, he⟩ := hrel
    have HRR := Lib.hid hr
    have HO := Lib.hid ho
    have HE := Lib.hid he
    have HL := Lib.hid hr.2
    clear hr ho he
    rcases Nat.lt_trichotomy i j with h | h | h
    · have h1 : ((i : Int) != (j : Int)) = true := by rw [bne_iff_ne]; omega
      have h2 : ¬ ((j : Int) < (i : Int)) := by omega
      go_wp2_with fail
      refine (swapRange_int base g n c (m - i) (m + j - i) i f ys _ _ _ _ (by omega) (by omega) (by omega) hn (by omega) (by omega) HRR.out).mono ?_
      rintro e w1 ⟨rfl, hr1, ho1⟩
      have HR1 := Lib.hid hr1
      have HO1 := Lib.hid ho1
      clear hr1 ho1
      go_wp2
      refine ⟨⟨i, j - i, _, hi1, hi2, by omega, by omega, rfl, by go_num, HR1.out, HO.out.trans HO1.out, ?_⟩, by simp [intOf]; omega⟩
      rw [← HE.out, ← rot_step2 ys m i j h hi2 (by rw [HL.out]; exact hj2), show m + (j - i) = m + j - i by omega]
    · subst h
      go_wp2_with fail
      refine (swapRange_int base g n c (m - i) m i f ys _ _ _ _ (by omega) (by omega) (by omega) hn (by omega) (by omega) HRR.out).mono ?_
      rintro e w1 ⟨rfl, hr1, ho1⟩
      go_wp2
      go_end0
      refine ⟨rfl, ?_, HO.out.trans ho1⟩
      rw [← HE.out, ← rot_step3 ys m i hi2 (by rw [HL.out]; exact hj2)]
      exact hr1
    · have h1 : ((i : Int) != (j : Int)) = true := by rw [bne_iff_ne]; omega
      have h2 : (j : Int) < (i : Int) := by omega
      go_wp2_with fail
      refine (swapRange_int base g n c (m - i) m j f ys _ _ _ _ (by omega) (by omega) (by omega) hn (by omega) (by omega) HRR.out).mono ?_
      rintro e w1 ⟨rfl, hr1, ho1⟩
      have HR1 := Lib.hid hr1
      have HO1 := Lib.hid ho1
      clear hr1 ho1
      go_wp2
      refine ⟨⟨i - j, j, _, by omega, by omega, hj1, hj2, by go_num, rfl, HR1.out, HO.out.trans HO1.out, ?_⟩, by simp [intOf]; omega⟩
      rw [← HE.out, ← rot_step1 ys m i j h hi2 (by rw [HL.out]; exact hj2), show m - (i - j) = m - i + j by omega]

end Go.Proofs.Ytmllbailfbjoeaa
