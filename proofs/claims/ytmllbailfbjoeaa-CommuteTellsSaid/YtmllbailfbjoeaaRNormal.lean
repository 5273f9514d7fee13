/- The document's order of accesses, by insertion: it is the one that rises. -/
import Derived.Test.YtmllbailfbjoeaaStep
import Derived.Test.YtmllbailfbjoeaaRLevels
import Derived.Test.YtmllbailfbjoeaaPlain28c
import Derived.Test.YtmllbailfbjoeaaSwap
namespace Go.Proofs.Ytmllbailfbjoeaa
open Go.RowKit Go.Sort

theorem first_trans (l : List Acc) (i j k : Nat) (h1 : first l i j) (h2 : first l j k) : first l i k := by
  rw [first_iff] at *
  omega

/-- Places so far, in order. -/
structure Sofar (l : List Acc) (i : Nat) (os : List Int) : Prop where
  perm : os.Perm (idxs i)
  pw : os.Pairwise (first l)

theorem Sofar.len {l : List Acc} {i : Nat} {os : List Int} (h : Sofar l i os) : os.length = i := by rw [h.perm.length_eq, idxs_length]

theorem idxs_succ (n : Nat) : idxs (n + 1) = idxs n ++ [(n : Int)] := by simp [idxs, List.range_succ]

/-- Does the place p stand behind the place i? -/
def behind (l : List Acc) (i : Nat) (p : Int) : Bool := decide (lv l i < lv l p.toNat) || (lv l p.toNat == lv l i && decide ((at_ l (i : Int)).thread < (at_ l p).thread))

theorem Sofar.put {l : List Acc} {i k : Nat} {os : List Int} (h : Sofar l i os) (hi : i < l.length) (hk : k ≤ i) (hb : ∀ j, k ≤ j → j < i → behind l i (os.getD j 0) = true) (hf : k = 0 ∨ behind l i (os.getD (k - 1) 0) = false) :
    Sofar l (i + 1) (os.take k ++ (i : Int) :: os.drop k) := by
  have hlen := h.len
  have hin : ∀ j, j < i → ∃ p : Nat, os.getD j 0 = (p : Int) ∧ p < i := fun j hj => by
    have hm : os.getD j 0 ∈ os := by simp [List.getD, hlen, hj]
    have := (idxs_mem _ _).1 (h.perm.mem_iff.1 hm)
    exact ⟨(os.getD j 0).toNat, by omega, by omega⟩
  have hpw : ∀ p q, p < q → q < i → first l (os.getD p 0) (os.getD q 0) := fun p q hpq hq => by
    have := (List.pairwise_iff_getElem.1 h.pw) p q (by omega) (by omega) hpq
    simpa [List.getD, (by omega : q < os.length), (by omega : p < os.length)] using this
  have hlo : ∀ j, j < k → first l (os.getD j 0) (i : Int) := fun j hj => by
    rcases hf with hf | hf
    · omega
    · obtain ⟨p, hp, hpi⟩ := hin (k - 1) (by omega)
      have h1 : first l (os.getD (k - 1) 0) (i : Int) := by
        rw [hp] at hf ⊢
        have hor := first_or l p i hpi hi
        rw [first_iff, first_iff] at hor
        rw [first_iff]
        unfold behind at_ at hf
        simp only [Int.toNat_natCast] at hf
        grind
      by_cases he : j = k - 1
      · rw [he]; exact h1
      · have h2 := hpw j (k - 1) (by omega) (by omega)
        obtain ⟨q, hq, _⟩ := hin j (by omega)
        rw [hp] at h1 h2
        rw [hq] at h2 ⊢
        exact first_trans l q p i h2 h1
  have hhi : ∀ j, k ≤ j → j < i → first l (i : Int) (os.getD j 0) := fun j h1 h2 => by
    have hbj := hb j h1 h2
    obtain ⟨p, hp, _⟩ := hin j h2
    rw [hp] at hbj ⊢
    rw [first_iff]
    unfold behind at_ at hbj
    simp only [Int.toNat_natCast] at hbj
    grind
  refine ⟨?_, ?_⟩
  · rw [idxs_succ]
    refine List.perm_middle.trans ?_
    rw [List.take_append_drop]
    exact (List.Perm.cons _ h.perm).trans (List.perm_append_comm (l₁ := [(i : Int)]))
  · rw [List.pairwise_append]
    refine ⟨h.pw.sublist (List.take_sublist _ _), ?_, ?_⟩
    · rw [List.pairwise_cons]
      refine ⟨fun x hx => ?_, h.pw.sublist (List.drop_sublist _ _)⟩
      obtain ⟨j, hj, rfl⟩ := List.getElem_of_mem hx
      simp only [List.length_drop] at hj
      have := hhi (k + j) (by omega) (by omega)
      simpa [List.getD, (by omega : k + j < os.length)] using this
    · intro x hx y hy
      obtain ⟨j, hj, rfl⟩ := List.getElem_of_mem hx
      simp only [List.length_take] at hj
      have e1 : (os.take k)[j]'(by simp; omega) = os.getD j 0 := by simp [List.getD, (by omega : j < os.length)]
      rw [e1]
      rcases List.mem_cons.1 hy with rfl | hy
      · exact hlo j (by omega)
      · obtain ⟨q, hq, rfl⟩ := List.getElem_of_mem hy
        simp only [List.length_drop] at hq
        have := hpw j (k + q) (by omega) (by omega)
        simpa [List.getD, (by omega : k + q < os.length)] using this

/-- Accesses of places, and how deep they lie. -/
def lvAt (l : List Acc) (os : List Int) : List Int := os.map fun p => lv l p.toNat

theorem Sofar.same {l : List Acc} {os os' : List Int} (h : Sofar l l.length os) (h' : IsOrder l os') : os = os' :=
  List.Perm.eq_of_pairwise (le := first l) (fun a b _ _ h1 h2 => absurd h2 (first_asymm l a b h1)) h.pw h'.pw (h.perm.trans h'.perm.symm)

theorem accs_append (l r : List Acc) : accs (l ++ r) = accs l ++ accs r := by simp [accs]
theorem accs_take (l : List Acc) (k : Nat) : (accs l).take (k * 7) = accs (l.take k) := by
  rcases Nat.lt_or_ge k l.length with h | h
  · have e : accs l = accs (l.take k) ++ accs (l.drop k) := by rw [← accs_append, List.take_append_drop]
    rw [e, List.take_left' (by rw [accs_length, List.length_take]; omega)]
  · rw [List.take_of_length_le (by rw [accs_length]; omega), List.take_of_length_le h]
theorem accs_drop (l : List Acc) (k : Nat) : (accs l).drop (k * 7) = accs (l.drop k) := by
  rcases Nat.lt_or_ge k l.length with h | h
  · have e : accs l = accs (l.take k) ++ accs (l.drop k) := by rw [← accs_append, List.take_append_drop]
    rw [e, List.drop_left' (by rw [accs_length, List.length_take]; omega)]
  · rw [List.drop_of_length_le (by rw [accs_length]; omega), List.drop_of_length_le h]; rfl
theorem ints_append (l r : List Int) : ints (l ++ r) = ints l ++ ints r := by simp [ints]
theorem ints_take (l : List Int) (k : Nat) : (ints l).take (k * 1) = ints (l.take k) := by simp [ints, List.map_take]
theorem ints_drop (l : List Int) (k : Nat) : (ints l).drop (k * 1) = ints (l.drop k) := by simp [ints, List.map_drop]

end Go.Proofs.Ytmllbailfbjoeaa
