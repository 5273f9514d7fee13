/- Rows of records that the caller owns, of which some go: what is of no record. -/
import Derived.Test.YtiioedgdhkndgaaDoorGen
import Derived.Test.YtiioedgdhkndgaaDoorSwapL
import Derived.Lib.SliceRun
namespace Go.Proofs.YtiioedgdhkndgaaDoor
open Go.RowKit Go.Sort

/-- The closure (f, caps), asked at a record's value in a world that parts from w by new blocks and block g alone, answers p x and leaves alone what was there. -/
def AsksO {α : Type} (val : α → Value) (w : World) (g : Nat) (f : FuncId) (caps : Array Value) (p : α → Bool) (l : List α) : Prop :=
  ∀ x, x ∈ l → ∀ w', Only g w w' → Calls Tryd.prog f (#[val x] ++ caps) w' fun e w'' => e = .returned (.bool (p x)) ∧ Below w'.heap.size w' w''

theorem AsksO.toV {α : Type} {val : α → Value} {w : World} {g : Nat} {f : FuncId} {caps : Array Value} {p : α → Bool} {l : List α} (h : AsksO val w g f caps p l) : AsksV val w f caps p l :=
  fun x hx w' hb => h x hx w' (.of_below hb)

theorem only_setCells (g : Nat) : ∀ (vs : List Value) (o : Nat) (w : World), Only g w (w.setCells g o vs)
  | [], _, w => Only.refl g w
  | v :: r, o, w => ((Only.refl g w).set_ o v).trans (only_setCells g r (o + 1) _)

theorem zero_mem {z : Value} {n : Nat} {v : Value} (h : v ∈ (Builtin.zeroCells z.cells n).toList) : v ∈ z.cells.toList := by
  simp only [Builtin.zeroCells, Array.toList_range, Array.toList_map, List.mem_map, List.mem_range] at h
  obtain ⟨k, hk, rfl⟩ := h
  have hpos : 0 < z.cells.size := by
    rcases Nat.eq_zero_or_pos z.cells.size with h0 | h0
    · rw [h0] at hk; simp at hk
    · exact h0
  rw [getElem!_pos z.cells (k % z.cells.size) (Nat.mod_lt _ hpos)]
  simp

set_option maxRecDepth 100000 in
/-- clear(s[i:]) of a row that is owned. -/
theorem clear_own {w : World} {base g i n c s : Nat} {t e : TypeId} {z : Value} {xs : List Value} (ht : Tryd.prog.underlying t = some (.slice e)) (hz : ∀ w, (zeroValue e).run Tryd.prog w = .ok z w) (hzs : z.cells.size = s) (hz1 : ∀ u ∈ z.cells.toList, u.oneCell' = true)
    (hown : w.ownsRow base e s (.slice (some ⟨g, 0, none⟩) n c) n xs) (hi : i < n) :
    ∃ w', (∀ ty, (Builtin.clear_ #[t] ty #[.slice (some ⟨g, i * s, none⟩) (n - i) (c - i)]).run Tryd.prog w = .ok (.tuple #[]) w') ∧ Only g w w' ∧ Rd w' (some ⟨g, 0, none⟩) (xs.take (i * s)) := by
  have hl := hown.1
  rcases hown.2 with ⟨hv, _⟩ | ⟨g', cap, cur, hv, hb, hh, hnc, hm, hsz, hx⟩
  · cases hv
  · injection hv with hA _ hc
    injection hA with hA
    injection hA with hA
    subst hA hc
    have hlen : (Builtin.zeroCells z.cells (n - i)).toList.length = (n - i) * s := by rw [Array.length_toList, size_zeroCells, hzs]
    have hcell : ∀ j, j < (n - i) * s → (w.cell? ⟨g, i * s + j, none⟩).isSome = true := fun j hj => by
      have hlt : i * s + j < cur.size := by
        rw [hsz]
        have h1 : i * s + (n - i) * s = n * s := by rw [← Nat.add_mul]; congr 1; omega
        have h2 : n * s ≤ c * s := Nat.mul_le_mul_right _ hnc
        omega
      rw [cell_of_row w g _ cur e (0, 0) hh, Array.getElem?_eq_getElem hlt]
      rfl
    have hfr : ∀ j, j < (n - i) * s → w.frozen? ⟨g, i * s + j, none⟩ = false := fun j _ => by simp [World.frozen?, hh]
    have hst := run_storeCells_cells (P := Tryd.prog) g (i * s) (Builtin.zeroCells z.cells (n - i)).toList 0 w (by rw [hlen]; simpa using hcell) (by rw [hlen]; simpa using hfr) (by
      intro v hv'
      exact hz1 _ (zero_mem hv'))
    simp only [Nat.add_zero] at hst
    refine ⟨w.setCells g (i * s) (Builtin.zeroCells z.cells (n - i)).toList, fun ty => ?_, ?_, ?_⟩
    · obtain ⟨m, hm'⟩ : ∃ m, n - i = m + 1 := ⟨n - i - 1, by omega⟩
      simp only [hm'] at hst ⊢
      simp [Builtin.clear_, run_underlying ht, hz, hst]
    · exact only_setCells g _ _ w
    · refine .inr ⟨g, 0, rfl, Nat.lt_of_lt_of_le (by
        rcases Nat.lt_or_ge g w.heap.size with hlt | hge
        · exact hlt
        · rw [Array.getElem?_eq_none hge] at hh; cases hh) (only_setCells g _ _ w).size, fun k v hk => ?_⟩
      rw [List.getElem?_take] at hk
      split at hk
      · rename_i hlt
        rw [World.cell?_setCells_out g _ _ w ⟨g, 0 + k, none⟩ (fun _ _ => .inl (by show 0 + k < i * s; omega)), Nat.zero_add]
        rw [← hx, List.getElem?_take] at hk
        split at hk
        · rw [cell_of_row w g _ cur e (0, 0) hh]; simpa using hk
        · cases hk
      · cases hk

/-- Those that stay of the first j, and behind them the row as it was. -/
def keptRow {α : Type} (p : α → Bool) (l : List α) (j : Nat) : List α := (l.take j).filter (fun x => !p x) ++ l.drop ((l.take j).filter (fun x => !p x)).length

theorem kept_len {α : Type} (p : α → Bool) (l : List α) (j : Nat) : ((l.take j).filter (fun x => !p x)).length ≤ j := by
  have := List.length_filter_le (fun x => !p x) (l.take j)
  simp at this
  omega

theorem kept_length {α : Type} (p : α → Bool) (l : List α) (j : Nat) (h : j ≤ l.length) : (keptRow p l j).length = l.length := by
  have := kept_len p l j
  simp only [keptRow, List.length_append, List.length_drop]
  omega

theorem kept_getD {α : Type} (p : α → Bool) (l : List α) (d : α) (j k : Nat) (hk : j ≤ k) : (keptRow p l j).getD k d = l.getD k d := by
  have := kept_len p l j
  simp only [keptRow, List.getD]
  rw [List.getElem?_append_right (by omega), List.getElem?_drop]
  congr 2
  omega

theorem take_succ_getD {α : Type} (l : List α) (d : α) (j : Nat) (h : j < l.length) : l.take (j + 1) = l.take j ++ [l.getD j d] := by
  rw [List.take_succ_eq_append_getElem h]
  simp [List.getD, h]

theorem kept_drop {α : Type} {p : α → Bool} {l : List α} {d : α} {j : Nat} (h : j < l.length) (hp : p (l.getD j d) = true) : keptRow p l (j + 1) = keptRow p l j := by
  unfold keptRow
  rw [take_succ_getD l d j h, List.filter_append]
  simp only [List.filter_cons, hp, Bool.not_true, Bool.false_eq_true, if_false, List.filter_nil, List.append_nil]

theorem kept_stay {α : Type} {p : α → Bool} {l : List α} {d : α} {j : Nat} (h : j < l.length) (hp : p (l.getD j d) = false) :
    keptRow p l (j + 1) = (keptRow p l j).set ((l.take j).filter (fun x => !p x)).length (l.getD j d) ∧ ((l.take (j + 1)).filter (fun x => !p x)).length = ((l.take j).filter (fun x => !p x)).length + 1 := by
  have hk := kept_len p l j
  have e : (l.take (j + 1)).filter (fun x => !p x) = (l.take j).filter (fun x => !p x) ++ [l.getD j d] := by
    rw [take_succ_getD l d j h, List.filter_append]
    simp only [List.filter_cons, hp, Bool.not_false, if_true, List.filter_nil]
  constructor
  · unfold keptRow
    rw [e]
    have hlt : ((l.take j).filter (fun x => !p x)).length < l.length := by omega
    generalize (l.take j).filter (fun x => !p x) = K at hlt ⊢
    conv => rhs; rw [List.set_append_right _ _ (Nat.le_refl _), Nat.sub_self, List.drop_eq_getElem_cons hlt, List.set_cons_zero]
    simp
  · rw [e]; simp

theorem ret_slice {A : Option Addr} {n m c : Nat} (h : n = m) : Ending.returned (.slice A n c) = .returned (.slice A m c) := by rw [h]

/-- What is left of a row that the caller owns. -/
def RetDel {α : Type} [Cellful α] (A : Option Addr) (c g : Nat) (l : List α) (w : World) (e : Ending) (w' : World) : Prop :=
  e = .returned (.slice A l.length c) ∧ Rd w' A (rows l) ∧ Only g w w'

/-- The closure (f, caps), asked at a record's value in a world that is as w was below base, answers p x and leaves alone what was there. -/
def AsksB {α : Type} (val : α → Value) (base : Nat) (w : World) (f : FuncId) (caps : Array Value) (p : α → Bool) (l : List α) : Prop :=
  ∀ x, x ∈ l → ∀ w', Below base w w' → Calls Tryd.prog f (#[val x] ++ caps) w' fun e w'' => e = .returned (.bool (p x)) ∧ Below w'.heap.size w' w''

/-- What is left of a row that the caller owns from base on. -/
def RetDelB {α : Type} [Cellful α] (A : Option Addr) (c base : Nat) (l : List α) (w : World) (e : Ending) (w' : World) : Prop :=
  e = .returned (.slice A l.length c) ∧ Rd w' A (rows l) ∧ Below base w w'

theorem only_below {g base : Nat} {a w : World} (h : Only g a w) (hg : base ≤ g) (hb : base ≤ a.heap.size) : Below base a w := h.below hg hb

end Go.Proofs.YtiioedgdhkndgaaDoor
