/- Accesses that may change places, in plain lists: done in an order that keeps those that may not, they leave the same words; their depths; and there is one such order. -/
import Derived.Test.YtmllbailfbjoeaaNormal2
namespace Go.Proofs.Ytmllbailfbjoeaa

theorem fits_iff (ws : List Int) (a : Acc) (x : Int) : fitsE ws a x = 0 ↔ 0 ≤ a.addr ∧ a.addr < ws.length ∧ goodB a ws.length = true ∧ ws.getD a.addr.toNat 0 = x := by
  unfold fitsE
  grind

theorem good_same {a : Acc} {n : Int} (h : goodB a n = true) (hc : chgB a = false) : a.now = a.old := by
  unfold goodB at h
  unfold chgB at hc
  grind

theorem set_same (ws : List Int) (k : Nat) (x : Int) (h : ws.getD k 0 = x) : ws.set k x = ws := by
  apply List.ext_getElem?
  intro i
  rw [List.getElem?_set]
  split
  · rename_i he
    subst he
    split
    · rename_i hl
      rw [← h]
      simp [List.getD, hl]
    · rename_i hl
      rw [List.getElem?_eq_none (by omega)]
  · rfl

theorem getD_set_ne (ws : List Int) (i j : Nat) (x : Int) (h : i ≠ j) : (ws.set i x).getD j 0 = ws.getD j 0 := by
  simp [List.getD, h]

/-- Two that may change places, changed. -/
theorem redo_swap (ws : List Int) (x y : Acc) (q : List Acc) (r : List Int) (hf : freeB x y = true) (h : redoS ws (x :: y :: q) = (r, 0)) : redoS ws (y :: x :: q) = (r, 0) := by
  simp only [redoS] at h ⊢
  by_cases hx : fitsE ws x x.old = 0
  · rw [if_pos hx] at h
    by_cases hy : fitsE (ws.set x.addr.toNat x.now) y y.old = 0
    · rw [if_pos hy] at h
      rw [fits_iff] at hx hy
      obtain ⟨x1, x2, x3, x4⟩ := hx
      obtain ⟨y1, y2, y3, y4⟩ := hy
      simp only [List.length_set] at y2 y3
      unfold freeB at hf
      by_cases ha : x.addr = y.addr
      · have hc : chgB x = false ∧ chgB y = false := by grind
        have ex := good_same x3 hc.1
        have ey := good_same y3 hc.2
        have e1 : ws.set x.addr.toNat x.now = ws := set_same _ _ _ (by rw [ex]; exact x4)
        rw [e1] at y4 h
        have e2 : ws.set y.addr.toNat y.now = ws := set_same _ _ _ (by rw [ey]; exact y4)
        rw [e2] at h
        rw [if_pos ((fits_iff ws y y.old).2 ⟨y1, y2, y3, y4⟩), e2, if_pos ((fits_iff ws x x.old).2 ⟨x1, x2, x3, x4⟩), e1]
        exact h
      · have hne : x.addr.toNat ≠ y.addr.toNat := by omega
        rw [getD_set_ne _ _ _ _ hne] at y4
        rw [if_pos ((fits_iff ws y y.old).2 ⟨y1, y2, y3, y4⟩)]
        rw [if_pos ((fits_iff _ x x.old).2 ⟨x1, by simpa using x2, by simpa using x3, by rw [getD_set_ne _ _ _ _ (Ne.symm hne)]; exact x4⟩)]
        rw [List.set_comm _ _ (Ne.symm hne)]
        exact h
    · rw [if_neg hy] at h
      simp only [Prod.mk.injEq] at h
      exact absurd h.2 hy
  · rw [if_neg hx] at h
    simp only [Prod.mk.injEq] at h
    exact absurd h.2 hx

theorem redo_cons (ws : List Int) (x : Acc) (l : List Acc) (r : List Int) : redoS ws (x :: l) = (r, 0) ↔ fitsE ws x x.old = 0 ∧ redoS (ws.set x.addr.toNat x.now) l = (r, 0) := by
  simp only [redoS]
  by_cases hx : fitsE ws x x.old = 0
  · simp [hx]
  · rw [if_neg hx]
    simp [hx]

/-- One that may change places with all ahead of it, moved to the front. -/
theorem redo_front : ∀ (p : List Acc) (ws : List Int) (x : Acc) (q : List Acc) (r : List Int), (∀ y ∈ p, freeB y x = true) → redoS ws (p ++ x :: q) = (r, 0) → redoS ws (x :: (p ++ q)) = (r, 0)
  | [], ws, x, q, r, _, h => h
  | y :: p, ws, x, q, r, hf, h => by
    rw [List.cons_append, redo_cons] at h
    have ih := redo_front p _ x q r (fun z hz => hf z (by simp [hz])) h.2
    have h2 : redoS ws (y :: x :: (p ++ q)) = (r, 0) := (redo_cons ws y _ r).2 ⟨h.1, ih⟩
    exact redo_swap ws y x (p ++ q) r (hf y (by simp)) h2

/-- Places in an order that keeps those that may not change: done in that order, the words are the same. -/
theorem redo_order (f : Int → Acc) (lt : Int → Int → Prop) (has : ∀ x y, lt x y → ¬ lt y x) : ∀ (N L : List Int) (ws r : List Int), N.Perm L → N.Pairwise lt → L.Pairwise (fun y x => freeB (f y) (f x) = true ∨ lt y x) →
    redoS ws (L.map f) = (r, 0) → redoS ws (N.map f) = (r, 0)
  | [], L, ws, r, hp, _, _, h => by
    have : L = [] := List.Perm.eq_nil hp.symm
    subst this
    exact h
  | x :: N, L, ws, r, hp, hN, hL, h => by
    obtain ⟨p, q, rfl⟩ := List.append_of_mem (hp.mem_iff.1 (by simp : x ∈ x :: N))
    have hp2 : N.Perm (p ++ q) := (hp.trans List.perm_middle).cons_inv
    have hfree : ∀ y ∈ p, freeB (f y) (f x) = true := by
      intro y hy
      have h1 := (List.pairwise_append.1 hL).2.2 y hy x (by simp)
      rcases h1 with h1 | h1
      · exact h1
      · have hyN : y ∈ N := hp2.mem_iff.2 (by simp [hy])
        exact absurd h1 (has x y ((List.pairwise_cons.1 hN).1 y hyN))
    have h2 : redoS ws (f x :: ((p ++ q).map f)) = (r, 0) := by
      rw [List.map_append]
      refine redo_front (p.map f) ws (f x) (q.map f) r ?_ (by simpa using h)
      intro z hz
      obtain ⟨y, hy, rfl⟩ := List.mem_map.1 hz
      exact hfree y hy
    rw [redo_cons] at h2
    rw [List.map_cons, redo_cons]
    refine ⟨h2.1, redo_order f lt has N (p ++ q) _ r hp2 (List.pairwise_cons.1 hN).2 ?_ h2.2⟩
    exact hL.sublist (List.Sublist.append (List.Sublist.refl p) (List.sublist_cons_self x q))

end Go.Proofs.Ytmllbailfbjoeaa
