/- An evaluator of calls: how a memory of named rows stands in a world. -/
import Derived.Test.YtedipingocmmdaaGreatEvR0
import Derived.Test.YtedipingocmmdaaGreatEvB
import Derived.Below
namespace Go.Proofs.YtedipingocmmdaaGreat.Ev
open Go Go.RowKit

/-- A row in its block. -/
def RowOk (P : Program) (ρ : Nat → Loc) (U : Nat → Prop) (w : World) (b : Blk) (L : Loc) : Prop :=
  (∀ v ∈ b.cells, Ok ρ U v ∧ one v) ∧ ∃ rest : List Value, w.heap[L.blk]? = some (.cells (b.cells.map (ren ρ) ++ rest).toArray b.elem (0, 0)) ∧
    (b.opn = false → rest = []) ∧ (b.opn = true → sizeT P b.elem = some L.size ∧ 0 < L.size ∧ b.cells.length + rest.length = L.cap * L.size)
/-- The memory of named rows stands in the world: each at its place, which the call made. -/
structure Rel (P : Program) (base : Nat) (w0 : World) (ρ : Nat → Loc) (U : Nat → Prop) (H : Mem) (w : World) : Prop where
  old : Below base w0 w
  top : base ≤ w.heap.size
  at_ : ∀ n, U n → (16 ≤ n → base ≤ (ρ n).blk) ∧ (ρ n).blk < w.heap.size
  inj : ∀ n m b b', H.get n = some b → H.get m = some b' → (ρ n).blk = (ρ m).blk → n = m
  live : ∀ n b, H.get n = some b → U n
  low : ∀ n, U n → n < big
  row : ∀ n b, H.get n = some b → RowOk P ρ U w b (ρ n)
section
variable {P : Program} {base : Nat} {w0 w w' : World} {ρ ρ' : Nat → Loc} {U U' : Nat → Prop} {H H' : Mem}
theorem RowOk.more {b : Blk} {L : Loc} (hm : More ρ U ρ' U') (h : RowOk P ρ U w b L) (hw : w'.heap[L.blk]? = w.heap[L.blk]?) : RowOk P ρ' U' w' b L := by
  obtain ⟨h1, rest, h2, h3, h4⟩ := h
  refine ⟨fun v hv => ⟨(ok_more hm v (h1 v hv).1).1, (h1 v hv).2⟩, rest, ?_, h3, h4⟩
  rw [hw, h2]
  have e : b.cells.map (ren ρ') = b.cells.map (ren ρ) := List.map_congr_left fun v hv => (ok_more hm v (h1 v hv).1).2
  rw [e]
theorem Rel.drew (h : Rel P base w0 ρ U H w) : Rel P base w0 ρ U H w.drew := ⟨h.old.drew, h.top, h.at_, h.inj, h.live, h.low, h.row⟩
theorem Rel.sub (h : Rel P base w0 ρ U H w) (hs : ∀ n b, H'.get n = some b → H.get n = some b) : Rel P base w0 ρ U H' w :=
  ⟨h.old, h.top, h.at_, fun n m b b' h1 h2 => h.inj n m b b' (hs _ _ h1) (hs _ _ h2), fun n b h1 => h.live n b (hs _ _ h1), h.low, fun n b h1 => h.row n b (hs _ _ h1)⟩
/-- One row is new, or another one than it was. -/
theorem Rel.put (h : Rel P base w0 ρ U H w) {c : Nat} {b : Blk} (hm : More ρ U ρ' U') (hU : ∀ j, U' j → U j ∨ j = c) (hc : U' c) (hbig : c < big)
    (hH : ∀ j x, H'.get j = some x → (j = c ∧ x = b) ∨ (j ≠ c ∧ H.get j = some x ∧ (ρ j).blk ≠ (ρ' c).blk))
    (hb : Below base w w') (h1 : base ≤ (ρ' c).blk) (h2 : (ρ' c).blk < w'.heap.size) (hk : ∀ k, k < w.heap.size → k ≠ (ρ' c).blk → w'.heap[k]? = w.heap[k]?) (hr : RowOk P ρ' U' w' b (ρ' c)) : Rel P base w0 ρ' U' H' w' where
  old := h.old.trans hb
  top := Nat.le_trans h.top hb.size
  at_ := fun n hn => by
    rcases hU n hn with h3 | h3
    · have := h.at_ n h3
      rw [hm.at_ n h3]
      exact ⟨this.1, Nat.lt_of_lt_of_le this.2 hb.size⟩
    · rw [h3]; exact ⟨fun _ => h1, h2⟩
  inj := fun n m x y hn hmm he => by
    rcases hH n x hn with ⟨rfl, rfl⟩ | ⟨hn1, hn2, hn3⟩ <;> rcases hH m y hmm with ⟨rfl, rfl⟩ | ⟨hm1, hm2, hm3⟩
    · rfl
    · rw [hm.at_ m (h.live m y hm2)] at he; exact absurd he.symm hm3
    · rw [hm.at_ n (h.live n x hn2)] at he; exact absurd he hn3
    · rw [hm.at_ n (h.live n x hn2), hm.at_ m (h.live m y hm2)] at he
      exact h.inj n m x y hn2 hm2 he
  live := fun n x hn => by
    rcases hH n x hn with ⟨rfl, rfl⟩ | ⟨_, h3, _⟩
    · exact hc
    · exact hm.up n (h.live n x h3)
  low := fun n hn => by
    rcases hU n hn with h3 | h3
    · exact h.low n h3
    · rw [h3]; exact hbig
  row := fun n x hn => by
    rcases hH n x hn with ⟨rfl, rfl⟩ | ⟨h3, h4, h5⟩
    · exact hr
    · have hl := h.live n x h4
      have := (h.row n x h4).more hm (w' := w') (hk _ (h.at_ n hl).2 h5)
      rw [hm.at_ n hl]; exact this
end

/-! ### Cells read and written -/
theorem cell_at {w : World} {k : Nat} {L : List Value} {t : TypeId} (h : w.heap[k]? = some (.cells L.toArray t (0, 0))) (o : Nat) : w.cell? ⟨k, o, none⟩ = L[o]? := by
  unfold World.cell?
  rw [h]
  simp
theorem frozen_at {w : World} {k : Nat} {L : List Value} {t : TypeId} (h : w.heap[k]? = some (.cells L.toArray t (0, 0))) (o : Nat) : w.frozen? ⟨k, o, none⟩ = false := by
  unfold World.frozen?
  rw [h]
  simp
theorem add_at (k o i : Nat) : (Addr.mk k o none).add i = ⟨k, o + i, none⟩ := by
  unfold Addr.add
  split
  · subst_vars; rfl
  · rfl
theorem run_bind {α β : Type} {P : Program} {s : Sem α} {f : α → Sem β} {w w1 : World} {x : α} (h : s.run P w = .ok x w1) : (s >>= f).run P w = (f x).run P w1 := by
  show (Sem.bind s f).run P w = _
  induction s generalizing w with
  | pure a => injection h with h1 h2; subst h1 h2; rfl
  | load m a k ih =>
    simp only [Sem.run, Sem.bind] at h ⊢
    split at h
    · exact ih _ h
    · split at h
      · exact ih _ h
      · cases h
  | store m a v k ih =>
    cases v with
    | agg _ => simp [Sem.run] at h
    | tuple _ => simp [Sem.run] at h
    | _ =>
      simp only [Sem.run, Sem.bind] at h ⊢
      split at h
      · split at h
        · cases h
        · rename_i hf; rw [if_neg hf]; exact ih h
      · split at h
        · exact ih h
        · cases h
  | new o k ih => exact ih _ h
  | shape r k ih => exact ih _ h
  | freeze a n k ih => exact ih h
  | frozen a k ih => exact ih _ h
  | getObj r k ih =>
    simp only [Sem.run, Sem.bind] at h ⊢
    split at h <;> first | exact ih _ h | cases h
  | setObj r o k ih =>
    simp only [Sem.run, Sem.bind] at h ⊢
    split at h <;> first | exact ih h | cases h
  | choose q k ih =>
    simp only [Sem.run, Sem.bind] at h ⊢
    by_cases hq : q.forced = true
    · rw [if_pos hq] at h ⊢; exact ih _ h
    · rw [if_neg hq] at h ⊢; exact ih _ h
  | sys c k ih => exact ih _ h
  | program k ih => exact ih _ h
  | mark m k ih => exact ih h
  | halt x => cases h
theorem run_loadCells {P : Program} {w : World} {k : Nat} {L : List Value} {t : TypeId} (h : w.heap[k]? = some (.cells L.toArray t (0, 0))) (o : Nat) :
    ∀ (n i : Nat) (acc : Array Value), o + i + n ≤ L.length → (loadCellsFrom ⟨k, o, none⟩ i n acc).run P w = .ok (acc ++ ((L.drop (o + i)).take n).toArray) w
  | 0, i, acc, _ => by
    show (Sem.pure acc).run P w = _
    simp [Sem.run]
  | n + 1, i, acc, hl => by
    have hc := cell_at h (o + i)
    rw [List.getElem?_eq_getElem (show o + i < L.length by omega)] at hc
    have h1 : (load ((Addr.mk k o none).add i)).run P w = .ok L[o + i] w := by rw [add_at]; simp [load, Sem.run, hc]
    show (load ((Addr.mk k o none).add i) >>= fun v => loadCellsFrom ⟨k, o, none⟩ (i + 1) n (acc.push v)).run P w = _
    rw [run_bind h1, run_loadCells h o n (i + 1) _ (by omega)]
    congr 1
    rw [List.drop_eq_getElem_cons (show o + i < L.length by omega), List.take_succ_cons, show o + (i + 1) = o + i + 1 by omega]
    simp
theorem setCell_row {w : World} {k : Nat} {L : List Value} {t : TypeId} (h : w.heap[k]? = some (.cells L.toArray t (0, 0))) (o : Nat) (v : Value) :
    (w.setCell ⟨k, o, none⟩ v).heap[k]? = some (.cells (L.set o v).toArray t (0, 0)) := by
  simp only [World.setCell, Array.getElem?_modify, h]
  simp
theorem run_storeCells {P : Program} {k : Nat} {t : TypeId} (o : Nat) : ∀ (vs : List Value) (i : Nat) (w : World) (L : List Value), w.heap[k]? = some (.cells L.toArray t (0, 0)) → (∀ v ∈ vs, one v) → o + i + vs.length ≤ L.length →
    ∃ w', (storeCells ⟨k, o, none⟩ vs i).run P w = .ok () w' ∧ w'.heap[k]? = some (.cells (overL (o + i) vs L).toArray t (0, 0)) ∧ (∀ j, j ≠ k → w'.heap[j]? = w.heap[j]?) ∧ w'.heap.size = w.heap.size ∧ w'.os = w.os ∧ w'.tape = w.tape ∧ w'.output = w.output
  | [], i, w, L, h, _, _ => ⟨w, rfl, by rw [h]; simp [overL], fun _ _ => rfl, rfl, rfl, rfl, rfl⟩
  | v :: vs, i, w, L, h, hv, hl => by
    simp only [List.length_cons] at hl
    have hc := cell_at h (o + i)
    rw [List.getElem?_eq_getElem (show o + i < L.length by omega)] at hc
    have hs : (store ((Addr.mk k o none).add i) v).run P w = .ok () (w.setCell ⟨k, o + i, none⟩ v) := by
      rw [add_at]
      have h1 := hv v (List.mem_cons_self ..)
      cases v with
      | agg _ => exact h1.elim
      | tuple _ => exact h1.elim
      | _ => simp [store, Sem.run, hc, frozen_at h]
    obtain ⟨w', h1, h2, h3, h4, h5, h6, h7⟩ := run_storeCells o vs (i + 1) (w.setCell ⟨k, o + i, none⟩ v) (L.set (o + i) v) (setCell_row h (o + i) v) (fun x hx => hv x (List.mem_cons_of_mem _ hx)) (by rw [List.length_set]; omega)
    refine ⟨w', ?_, ?_, fun j hj => ?_, ?_, h5, h6, h7⟩
    · show (store ((Addr.mk k o none).add i) v >>= fun _ => storeCells ⟨k, o, none⟩ vs (i + 1)).run P w = _
      rw [run_bind hs, h1]
    · rw [h2]
      congr 2
      unfold overL
      rw [show o + (i + 1) = o + i + 1 by omega, show o + i + (v :: vs).length = o + i + 1 + vs.length by simp only [List.length_cons]; omega]
      congr 1
      rw [List.drop_set_of_lt (by omega)]
      congr 1
      rw [List.take_add_one, List.take_set_of_le (Nat.le_refl _), List.getElem?_set_self (by omega)]
      simp
    · rw [h3 j hj]; exact Below.heap_setCell _ _ _ _ hj
    · rw [h4]; simp [World.setCell]
end Go.Proofs.YtedipingocmmdaaGreat.Ev

