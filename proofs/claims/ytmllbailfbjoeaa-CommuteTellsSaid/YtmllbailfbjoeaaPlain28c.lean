/- The order by depths and threads: it does the same, and stands already. -/
import Derived.Test.YtmllbailfbjoeaaPlain28b
namespace Go.Proofs.Ytmllbailfbjoeaa

/-- The access at a place. -/
def at_ (l : List Acc) (i : Int) : Acc := l.getD i.toNat Acc.none

theorem idxs_getD (n k : Nat) (h : k < n) : (idxs n).getD k 0 = (k : Int) := by simp [idxs, List.getD, h]
theorem idxs_map (l : List Acc) : (idxs l.length).map (at_ l) = l := by
  apply List.ext_getElem?
  intro i
  simp only [idxs, List.map_map, List.getElem?_map]
  rcases Nat.lt_or_ge i l.length with h | h
  · rw [List.getElem?_range h]
    simp [at_, List.getD, h]
  · rw [List.getElem?_eq_none (by simpa using h), List.getElem?_eq_none h]
    rfl
theorem idxs_nodup (n : Nat) : (idxs n).Nodup := by
  unfold idxs
  rw [List.nodup_iff_pairwise_ne, List.pairwise_map]
  exact (List.nodup_range (n := n)).imp fun h => by omega
theorem idxs_mem (n : Nat) (x : Int) : x ∈ idxs n ↔ 0 ≤ x ∧ x < (n : Int) := by
  constructor
  · exact idxs_ok n x
  · intro h
    simp only [idxs, List.mem_map, List.mem_range]
    exact ⟨x.toNat, by omega, by omega⟩

/-- An order of all places that does not fall. -/
structure IsOrder (l : List Acc) (os : List Int) : Prop where
  perm : os.Perm (idxs l.length)
  rises : Rises (ltOf (cmpS (lvs l l.length) l)) 0 l.length os

theorem IsOrder.len {l : List Acc} {os : List Int} (h : IsOrder l os) : os.length = l.length := by rw [h.perm.length_eq, idxs_length]

theorem IsOrder.pw {l : List Acc} {os : List Int} (h : IsOrder l os) : os.Pairwise (first l) := by
  rw [List.pairwise_iff_getElem]
  intro i j hi hj hij
  have hl := h.len
  have hnd : os.Nodup := h.perm.nodup_iff.2 (idxs_nodup _)
  have hne : os[i] ≠ os[j] := by
    rw [List.nodup_iff_pairwise_ne, List.pairwise_iff_getElem] at hnd
    exact hnd i j hi hj hij
  have m1 := (idxs_mem _ _).1 (h.perm.mem_iff.1 (List.getElem_mem hi))
  have m2 := (idxs_mem _ _).1 (h.perm.mem_iff.1 (List.getElem_mem hj))
  have hr := h.rises i j (by omega) hij (by omega)
  have e1 : os.getD i 0 = os[i] := by simp [List.getD, hi]
  have e2 : os.getD j 0 = os[j] := by simp [List.getD, hj]
  rw [e1, e2] at hr
  generalize os[i] = x at *
  generalize os[j] = y at *
  obtain ⟨x, rfl⟩ := Int.eq_ofNat_of_zero_le m1.1
  obtain ⟨y, rfl⟩ := Int.eq_ofNat_of_zero_le m2.1
  have hnot : ¬ first l (y : Int) (x : Int) := by
    intro h'
    unfold first at h'
    unfold ltOf at hr
    simp at hr
    omega
  rcases Nat.lt_or_gt_of_ne (show x ≠ y by omega) with hxy | hxy
  · rcases first_or l x y hxy (by omega) with h1 | h1
    · exact h1
    · exact absurd h1 hnot
  · rcases first_or l y x hxy (by omega) with h1 | h1
    · exact absurd h1 hnot
    · exact h1

theorem idxs_free (l : List Acc) : (idxs l.length).Pairwise (fun y x => freeB (at_ l y) (at_ l x) = true ∨ first l y x) := by
  rw [List.pairwise_iff_getElem]
  intro i j hi hj hij
  rw [idxs_length] at hi hj
  have e1 : (idxs l.length)[i]'(by rw [idxs_length]; exact hi) = (i : Int) := by simp [idxs]
  have e2 : (idxs l.length)[j]'(by rw [idxs_length]; exact hj) = (j : Int) := by simp [idxs]
  rw [e1, e2]
  simp only [at_, Int.toNat_natCast]
  cases hf : freeB (l.getD i Acc.none) (l.getD j Acc.none)
  · right
    rw [first_iff]
    left
    have := (depths_lv l).up i j hij hj hf
    omega
  · left; rfl

/-- Done in the order, the words are the same. -/
theorem order_redo {l : List Acc} {os : List Int} (h : IsOrder l os) (ws r : List Int) (hr : redoS ws l = (r, 0)) : redoS ws (os.map (at_ l)) = (r, 0) :=
  redo_order (at_ l) (first l) (first_asymm l) os (idxs l.length) ws r h.perm h.pw (idxs_free l) (by rw [idxs_map]; exact hr)

theorem order_one {l : List Acc} {os os' : List Int} (h : IsOrder l os) (h' : IsOrder l os') : os = os' :=
  List.Perm.eq_of_pairwise (le := first l) (fun a b _ _ h1 h2 => absurd h2 (first_asymm l a b h1)) h.pw h'.pw (h.perm.trans h'.perm.symm)

theorem map_getD (l : List Acc) (os : List Int) (p : Nat) (hp : p < os.length) : (os.map (at_ l)).getD p Acc.none = at_ l (os.getD p 0) := by
  simp [List.getD, hp]

/-- The depths of what stands in the order. -/
theorem order_depths {l : List Acc} {os : List Int} (h : IsOrder l os) : Depths (os.map (at_ l)) (fun p => lv l (os.getD p 0).toNat) := by
  have hlen := h.len
  have hin : ∀ p, p < os.length → 0 ≤ os.getD p 0 ∧ os.getD p 0 < (l.length : Int) := fun p hp => (idxs_mem _ _).1 (h.perm.mem_iff.1 (by simp [List.getD, hp]))
  have hpw : ∀ p q, p < q → q < os.length → first l (os.getD p 0) (os.getD q 0) := fun p q hpq hq => by
    have := (List.pairwise_iff_getElem.1 h.pw) p q (by omega) hq hpq
    simpa [List.getD, hq, (by omega : p < os.length)] using this
  refine ⟨fun p hp => ?_, fun q p hqp hp hf => ?_, fun p hp => ?_⟩
  · simp at hp
    have := hin p hp
    exact (depths_lv l).pos _ (by omega)
  · simp at hp
    rw [map_getD l os q (by omega), map_getD l os p hp] at hf
    have h1 := hin p hp
    have h2 := hin q (by omega)
    have h3 := hpw q p hqp hp
    obtain ⟨x, hx⟩ := Int.eq_ofNat_of_zero_le h1.1
    obtain ⟨y, hy⟩ := Int.eq_ofNat_of_zero_le h2.1
    simp only [hx, hy, at_, Int.toNat_natCast] at *
    rw [first_iff] at h3
    rcases Nat.lt_trichotomy y x with h4 | h4 | h4
    · exact (depths_lv l).up y x h4 (by omega) hf
    · subst h4; omega
    · rw [free_symm] at hf
      have := (depths_lv l).up x y h4 (by omega) hf
      omega
  · simp at hp
    have h1 := hin p hp
    obtain ⟨x, hx⟩ := Int.eq_ofNat_of_zero_le h1.1
    have hxl : x < l.length := by omega
    rcases (depths_lv l).is x hxl with h2 | ⟨k, k1, k2, k3⟩
    · left; simp only [hx, Int.toNat_natCast]; exact h2
    · right
      have hk : (k : Int) ∈ os := h.perm.mem_iff.2 ((idxs_mem _ _).2 ⟨by omega, by omega⟩)
      obtain ⟨q, hq, hqe⟩ := List.getElem_of_mem hk
      have hqe' : os.getD q 0 = (k : Int) := by simp [List.getD, hq, hqe]
      have hqp : q < p := by
        rcases Nat.lt_trichotomy q p with h5 | h5 | h5
        · exact h5
        · subst h5; rw [hqe'] at hx; omega
        · have h6 := hpw p q h5 hq
          rw [hqe', hx, first_iff] at h6
          omega
      refine ⟨q, hqp, ?_, ?_⟩
      · rw [map_getD l os q hq, map_getD l os p hp, hqe', hx]
        simpa [at_] using k2
      · simp only [hqe', hx, Int.toNat_natCast]; exact k3

/-- What stands in the order stands in the order already. -/
theorem order_stands {l : List Acc} {os os' : List Int} (h : IsOrder l os) (h' : IsOrder (os.map (at_ l)) os') : os'.map (at_ (os.map (at_ l))) = os.map (at_ l) := by
  have hlen := h.len
  have hnl : (os.map (at_ l)).length = l.length := by simp [hlen]
  have hid : IsOrder (os.map (at_ l)) (idxs (os.map (at_ l)).length) := by
    refine ⟨.refl _, fun i j h1 h2 h3 => ?_⟩
    rw [idxs_getD _ i (by omega), idxs_getD _ j h3]
    have hin : ∀ p, p < os.length → 0 ≤ os.getD p 0 ∧ os.getD p 0 < (l.length : Int) := fun p hp => (idxs_mem _ _).1 (h.perm.mem_iff.1 (by simp [List.getD, hp]))
    have hf : first (os.map (at_ l)) (i : Int) (j : Int) := by
      rw [first_iff]
      have d1 := depths_one _ (depths_lv (os.map (at_ l))) (order_depths h) i (by omega)
      have d2 := depths_one _ (depths_lv (os.map (at_ l))) (order_depths h) j h3
      rw [d1, d2, map_getD l os i (by omega), map_getD l os j (by omega)]
      have hp := (List.pairwise_iff_getElem.1 h.pw) i j (by omega) (by omega) h2
      have e1 : os.getD i 0 = os[i]'(by omega) := by simp [List.getD, (by omega : i < os.length)]
      have e2 : os.getD j 0 = os[j]'(by omega) := by simp [List.getD, (by omega : j < os.length)]
      have b1 := hin i (by omega)
      have b2 := hin j (by omega)
      rw [← e1, ← e2] at hp
      obtain ⟨x, hx⟩ := Int.eq_ofNat_of_zero_le b1.1
      obtain ⟨y, hy⟩ := Int.eq_ofNat_of_zero_le b2.1
      simp only [hx, hy, at_, Int.toNat_natCast] at *
      exact (first_iff l x y).1 hp
    have hna := first_asymm _ _ _ hf
    unfold first at hna
    unfold ltOf
    simp only [decide_eq_false_iff_not]
    exact hna
  rw [order_one h' hid, idxs_map]

end Go.Proofs.Ytmllbailfbjoeaa
