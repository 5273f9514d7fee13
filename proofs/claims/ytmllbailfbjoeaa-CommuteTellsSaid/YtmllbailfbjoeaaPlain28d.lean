/- Two neighbours that may change places, changed: the words, the order and the clashes stay as they were. -/
import Derived.Test.YtmllbailfbjoeaaPlain28c
import Derived.Test.YtmllbailfbjoeaaSwap
import Derived.Test.YtmllbailfbjoeaaClash
namespace Go.Proofs.Ytmllbailfbjoeaa

theorem split_two (l : List Acc) (i : Nat) (h : i + 1 < l.length) : l = l.take i ++ l.getD i Acc.none :: l.getD (i + 1) Acc.none :: l.drop (i + 2) := by
  have h1 : l.drop i = l[i] :: l.drop (i + 1) := List.drop_eq_getElem_cons (by omega)
  have h2 : l.drop (i + 1) = l[i + 1] :: l.drop (i + 2) := List.drop_eq_getElem_cons h
  have e1 : l.getD i Acc.none = l[i] := by simp [List.getD, (by omega : i < l.length)]
  have e2 : l.getD (i + 1) Acc.none = l[i + 1] := by simp [List.getD, h]
  rw [e1, e2, ← h2, ← h1, List.take_append_drop]

theorem swap_split (l : List Acc) (i : Nat) (h : i + 1 < l.length) : swapS l i = l.take i ++ l.getD (i + 1) Acc.none :: l.getD i Acc.none :: l.drop (i + 2) := by
  have hs := split_two l i h
  have hl : (l.take i).length = i := by simp; omega
  generalize l.getD i Acc.none = a at *
  unfold swapS
  generalize l.getD (i + 1) Acc.none = b at *
  generalize l.take i = p at *
  generalize l.drop (i + 2) = q at *
  have e0 : l.getD i Acc.none = a := by rw [hs]; simp [List.getD, hl]
  rw [e0, hs]
  rw [List.set_append_right _ _ (by omega), List.set_append_right _ _ (by omega)]
  simp [hl]

theorem swap_length (l : List Acc) (i : Nat) : (swapS l i).length = l.length := by simp [swapS]

/-- The place that an access came from. -/
def sw (i k : Nat) : Nat := if k = i then i + 1 else if k = i + 1 then i else k

theorem sw_sw (i k : Nat) : sw i (sw i k) = k := by unfold sw; split <;> split <;> (try split) <;> omega
theorem sw_lt (i k n : Nat) (h : i + 1 < n) (hk : k < n) : sw i k < n := by unfold sw; split <;> (try split) <;> omega
theorem sw_mono (i a b : Nat) (h : a < b) (hne : ¬ (a = i ∧ b = i + 1)) : sw i a < sw i b := by
  unfold sw; repeat' split
  all_goals omega

theorem swap_getD (l : List Acc) (i k : Nat) (h : i + 1 < l.length) : (swapS l i).getD k Acc.none = l.getD (sw i k) Acc.none := by
  unfold swapS sw
  by_cases h1 : k = i + 1
  · subst h1
    simp [List.getD, h]
  · by_cases h2 : k = i
    · subst h2
      simp [List.getD, (by omega : k < l.length)]
    · rw [if_neg h2, if_neg h1]
      simp only [List.getD]
      rw [List.getElem?_set_ne (by omega), List.getElem?_set_ne (by omega)]

theorem redo_swap_mid (x y : Acc) (hf : freeB x y = true) (q : List Acc) (r : List Int) : ∀ (p : List Acc) (ws : List Int), redoS ws (p ++ x :: y :: q) = (r, 0) → redoS ws (p ++ y :: x :: q) = (r, 0)
  | [], ws, h => redo_swap ws x y q r hf h
  | a :: p, ws, h => by
    rw [List.cons_append, redo_cons] at h ⊢
    exact ⟨h.1, redo_swap_mid x y hf q r p _ h.2⟩

theorem redo_fail : ∀ (l : List Acc) (ws : List Int), (redoS ws l).2 ≠ 0 → (redoS ws l).1 = []
  | [], ws, h => by simp [redoS] at h
  | a :: l, ws, h => by
    rw [redoS] at h ⊢
    split
    · rename_i h0; rw [if_pos h0] at h; exact redo_fail l _ h
    · rfl

/-- Changed, they do the same, or fail alike. -/
theorem redo_same (l : List Acc) (i : Nat) (h : i + 1 < l.length) (hf : freeB (l.getD i Acc.none) (l.getD (i + 1) Acc.none) = true) (ws : List Int) :
    ((redoS ws l).2 == 0) = ((redoS ws (swapS l i)).2 == 0) ∧ (redoS ws l).1 = (redoS ws (swapS l i)).1 := by
  have e1 := split_two l i h
  have e2 := swap_split l i h
  generalize l.getD i Acc.none = x at *
  generalize l.getD (i + 1) Acc.none = y at *
  generalize l.take i = p at *
  generalize l.drop (i + 2) = q at *
  rw [e2, e1]
  by_cases h0 : (redoS ws (p ++ x :: y :: q)).2 = 0
  · have ha : redoS ws (p ++ x :: y :: q) = ((redoS ws (p ++ x :: y :: q)).1, 0) := by rw [← h0]
    have hb := redo_swap_mid x y hf q _ p ws ha
    rw [hb, h0]
    exact ⟨rfl, rfl⟩
  · by_cases h1 : (redoS ws (p ++ y :: x :: q)).2 = 0
    · exfalso
      have ha : redoS ws (p ++ y :: x :: q) = ((redoS ws (p ++ y :: x :: q)).1, 0) := by rw [← h1]
      have hb := redo_swap_mid y x (by rw [free_symm]; exact hf) q _ p ws ha
      rw [hb] at h0
      exact h0 rfl
    · rw [redo_fail _ _ h0, redo_fail _ _ h1]
      exact ⟨by rw [beq_eq_false_iff_ne.2 h0, beq_eq_false_iff_ne.2 h1], rfl⟩

/-- The depths, changed. -/
theorem depths_swap (l : List Acc) (i : Nat) (h : i + 1 < l.length) (hf : freeB (l.getD i Acc.none) (l.getD (i + 1) Acc.none) = true) : Depths (swapS l i) (fun k => lv l (sw i k)) := by
  have D := depths_lv l
  refine ⟨fun k hk => ?_, fun k j hkj hj hfr => ?_, fun j hj => ?_⟩
  · rw [swap_length] at hk
    exact D.pos _ (sw_lt i k _ h hk)
  · rw [swap_length] at hj
    rw [swap_getD l i k h, swap_getD l i j h] at hfr
    refine D.up _ _ (sw_mono i k j hkj ?_) (sw_lt i j _ h hj) hfr
    rintro ⟨rfl, rfl⟩
    have s1 : sw k k = k + 1 := by simp [sw]
    have s2 : sw k (k + 1) = k := by simp [sw]
    rw [s1, s2, free_symm, hf] at hfr
    cases hfr
  · rw [swap_length] at hj
    rcases D.is (sw i j) (sw_lt i j _ h hj) with h0 | ⟨k, k1, k2, k3⟩
    · exact .inl h0
    · right
      refine ⟨sw i k, ?_, ?_, ?_⟩
      · have := sw_mono i k (sw i j) k1 (by
          rintro ⟨rfl, e⟩
          rw [e, hf] at k2
          cases k2)
        rwa [sw_sw] at this
      · rw [swap_getD l i _ h, swap_getD l i j h, sw_sw]
        exact k2
      · simp only [sw_sw]
        exact k3

theorem lv_swap (l : List Acc) (i : Nat) (h : i + 1 < l.length) (hf : freeB (l.getD i Acc.none) (l.getD (i + 1) Acc.none) = true) (k : Nat) (hk : k < l.length) : lv (swapS l i) k = lv l (sw i k) :=
  depths_one _ (depths_lv _) (depths_swap l i h hf) k (by rw [swap_length]; exact hk)

/-- The place that an access came from, as a number. -/
def swI (i : Nat) (x : Int) : Int := (sw i x.toNat : Nat)

theorem order_swap {l : List Acc} {i : Nat} {os os' : List Int} (h : i + 1 < l.length) (hf : freeB (l.getD i Acc.none) (l.getD (i + 1) Acc.none) = true) (ho : IsOrder l os) (ho' : IsOrder (swapS l i) os') : os'.map (at_ (swapS l i)) = os.map (at_ l) := by
  have hin : ∀ x ∈ os, 0 ≤ x ∧ x < (l.length : Int) := fun x hx => (idxs_mem _ _).1 (ho.perm.mem_iff.1 hx)
  have hpw : (os.map (swI i)).Pairwise (first (swapS l i)) := by
    rw [List.pairwise_map]
    refine ho.pw.imp_of_mem ?_
    intro a b ha hb hab
    obtain ⟨a1, a2⟩ := hin a ha
    obtain ⟨b1, b2⟩ := hin b hb
    obtain ⟨a, rfl⟩ := Int.eq_ofNat_of_zero_le a1
    obtain ⟨b, rfl⟩ := Int.eq_ofNat_of_zero_le b1
    have ea : swI i (a : Int) = ((sw i a : Nat) : Int) := rfl
    have eb : swI i (b : Int) = ((sw i b : Nat) : Int) := rfl
    rw [ea, eb, first_iff, lv_swap l i h hf _ (sw_lt i a _ h (by omega)), lv_swap l i h hf _ (sw_lt i b _ h (by omega)), sw_sw, sw_sw, swap_getD l i _ h, swap_getD l i _ h, sw_sw, sw_sw]
    exact (first_iff l a b).1 hab
  have hnd : (os.map (swI i)).Nodup := by
    rw [List.nodup_iff_pairwise_ne]
    refine hpw.imp ?_
    intro a b hab e
    subst e
    exact first_asymm _ _ _ hab hab
  have hperm : (os.map (swI i)).Perm (idxs (swapS l i).length) := by
    rw [swap_length]
    rw [List.perm_ext_iff_of_nodup hnd (idxs_nodup _)]
    intro x
    rw [idxs_mem]
    constructor
    · intro hx
      obtain ⟨y, hy, rfl⟩ := List.mem_map.1 hx
      obtain ⟨y1, y2⟩ := hin y hy
      have := sw_lt i y.toNat _ h (by omega)
      unfold swI
      omega
    · rintro ⟨x1, x2⟩
      have hs := sw_lt i x.toNat _ h (by omega)
      refine List.mem_map.2 ⟨swI i x, ho.perm.mem_iff.2 ((idxs_mem _ _).2 (by unfold swI; omega)), ?_⟩
      unfold swI
      rw [Int.toNat_natCast, sw_sw]
      omega
  have he : os' = os.map (swI i) :=
    List.Perm.eq_of_pairwise (le := first (swapS l i)) (fun a b _ _ h1 h2 => absurd h2 (first_asymm _ a b h1)) ho'.pw hpw (ho'.perm.trans hperm.symm)
  rw [he, List.map_map]
  apply List.map_congr_left
  intro x hx
  simp only [Function.comp, at_, swI, Int.toNat_natCast]
  rw [swap_getD l i _ h, sw_sw]

/-- How many of them an access clashes with. -/
def cnt (b : Acc) (ps : List Acc) : Int := ((ps.filter fun a => a.thread != b.thread && !freeB a b).length : Nat)

theorem clOf_cnt (b : Acc) : ∀ (ps : List Acc) (n : Int), clOf b ps n = n + cnt b ps
  | [], n => by simp [clOf, cnt]
  | a :: ps, n => by
    have ih := clOf_cnt b ps
    unfold clOf cnt at *
    simp only [List.foldl_cons, List.filter_cons]
    rw [ih]
    by_cases hc : (a.thread != b.thread && !freeB a b) = true
    · rw [if_pos hc, if_pos hc]; simp; omega
    · rw [if_neg hc, if_neg hc]

theorem cnt_perm (b : Acc) {p q : List Acc} (h : p.Perm q) : cnt b p = cnt b q := by
  unfold cnt
  rw [(h.filter _).length_eq]

theorem cnt_snoc_free (a b : Acc) (ps : List Acc) (h : freeB a b = true) : cnt b (ps ++ [a]) = cnt b ps := by
  simp [cnt, List.filter_append, h]

/-- The clashes of accesses behind others. -/
def clB : List Acc → List Acc → Int
  | _, [] => 0
  | ps, b :: q => cnt b ps + clB (ps ++ [b]) q

theorem clB_perm : ∀ (q : List Acc) {ps ps' : List Acc}, ps.Perm ps' → clB ps q = clB ps' q
  | [], _, _, _ => rfl
  | b :: q, ps, ps', h => by
    simp only [clB]
    rw [cnt_perm b h, clB_perm q (h.append_right [b])]

theorem clB_append : ∀ (p q ps : List Acc), clB ps (p ++ q) = clB ps p + clB (ps ++ p) q
  | [], q, ps => by simp [clB]
  | b :: p, q, ps => by
    simp only [List.cons_append, clB]
    rw [clB_append p q (ps ++ [b])]
    simp only [List.append_assoc, List.singleton_append]
    omega

theorem cls_clB (l : List Acc) : ∀ i, i ≤ l.length → cls l i = clB [] (l.take i)
  | 0, _ => by simp [cls, clB]
  | i + 1, h => by
    rw [cls, clOf_cnt, cls_clB l i (by omega), List.take_succ_eq_append_getElem (by omega), clB_append]
    simp [clB, List.getD, (by omega : i < l.length)]

theorem cls_swap (l : List Acc) (i : Nat) (h : i + 1 < l.length) (hf : freeB (l.getD i Acc.none) (l.getD (i + 1) Acc.none) = true) : cls (swapS l i) (swapS l i).length = cls l l.length := by
  rw [cls_clB _ _ (Nat.le_refl _), cls_clB _ _ (Nat.le_refl _), List.take_length, List.take_length]
  have e1 := split_two l i h
  have e2 := swap_split l i h
  generalize l.getD i Acc.none = x at *
  generalize l.getD (i + 1) Acc.none = y at *
  generalize l.take i = p at *
  generalize l.drop (i + 2) = q at *
  rw [e2, e1, clB_append, clB_append]
  simp only [clB, List.nil_append]
  rw [cnt_snoc_free x y p hf, cnt_snoc_free y x p (by rw [free_symm]; exact hf)]
  have hp : (p ++ [y] ++ [x]).Perm (p ++ [x] ++ [y]) := by
    rw [List.append_assoc, List.append_assoc]
    exact List.Perm.append_left p (List.Perm.swap x y [])
  rw [clB_perm q hp]
  omega

end Go.Proofs.Ytmllbailfbjoeaa
