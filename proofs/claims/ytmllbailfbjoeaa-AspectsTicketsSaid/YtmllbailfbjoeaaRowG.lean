/- Rows of records: each record is so many cells; what lies where. -/
import Derived.Test.YtmllbailfbjoeaaStep
namespace Go.Proofs.Ytmllbailfbjoeaa
open Go.RowKit Go.Sort

/-- A record that lies in s cells. -/
class Cellful (α : Type) where
  cells : α → List Value
  s : Nat
  dflt : α
  len : ∀ a, (cells a).length = s
  one : ∀ a, ∀ u ∈ cells a, u.oneCell' = true

section
variable {α : Type} [C : Cellful α]

/-- The cells of a row. -/
def rows (l : List α) : List Value := l.flatMap C.cells

theorem rows_length (l : List α) : (rows l).length = l.length * C.s := by
  induction l with
  | nil => simp [rows]
  | cons a l ih =>
    simp only [rows, List.flatMap_cons, List.length_append, List.length_cons] at *
    rw [ih, C.len, Nat.succ_mul]; omega

theorem rows_cons (a : α) (l : List α) : rows (a :: l) = C.cells a ++ rows l := by simp [rows]
theorem rows_append (l r : List α) : rows (l ++ r) = rows l ++ rows r := by simp [rows]
theorem rows_one (l : List α) : ∀ u ∈ rows l, u.oneCell' = true := by
  intro u hu
  simp only [rows, List.mem_flatMap] at hu
  obtain ⟨a, _, h⟩ := hu
  exact C.one a u h
theorem rows_single (a : α) : rows [a] = C.cells a := by simp [rows]

theorem rows_at {l : List α} : ∀ {k : Nat}, k < l.length → ∀ j, j < C.s → (rows l)[k * C.s + j]? = (C.cells (l.getD k C.dflt))[j]? := by
  induction l with
  | nil => intro k h; simp at h
  | cons a l ih =>
    intro k h j hj
    rw [rows_cons]
    match k with
    | 0 => rw [List.getElem?_append_left (by rw [C.len]; omega)]; simp
    | k + 1 =>
      rw [List.getElem?_append_right (by rw [C.len, Nat.succ_mul]; omega)]
      have := ih (k := k) (by simpa using h) j hj
      rw [C.len, show (k + 1) * C.s + j - C.s = k * C.s + j by rw [Nat.succ_mul]; omega, this]
      simp

theorem rows_take (l : List α) (k : Nat) : (rows l).take (k * C.s) = rows (l.take k) := by
  rcases Nat.lt_or_ge k l.length with h | h
  · have e : rows l = rows (l.take k) ++ rows (l.drop k) := by rw [← rows_append, List.take_append_drop]
    rw [e, List.take_left' (by rw [rows_length, List.length_take, Nat.min_eq_left (by omega)])]
  · rw [List.take_of_length_le (by rw [rows_length]; exact Nat.mul_le_mul_right _ h), List.take_of_length_le h]
theorem rows_drop (l : List α) (k : Nat) : (rows l).drop (k * C.s) = rows (l.drop k) := by
  rcases Nat.lt_or_ge k l.length with h | h
  · have e : rows l = rows (l.take k) ++ rows (l.drop k) := by rw [← rows_append, List.take_append_drop]
    rw [e, List.drop_left' (by rw [rows_length, List.length_take, Nat.min_eq_left (by omega)])]
  · rw [List.drop_of_length_le (by rw [rows_length]; exact Nat.mul_le_mul_right _ h), List.drop_of_length_le h]; rfl

/-- The cells of the record number k, the first one and the others. -/
theorem rec_cell {w : World} {b o : Nat} {l : List α} (hc : ∀ k v, (rows l)[k]? = some v → w.cell? ⟨b, o + k, none⟩ = some v) {k : Nat} (hk : k < l.length) {x : α} (hx : l.getD k C.dflt = x) :
    ∀ j v, (C.cells x)[j]? = some v → w.cell? ⟨b, o + k * C.s + j, none⟩ = some v := by
  intro j v hj
  have hjs : j < C.s := by
    have := (List.getElem?_eq_some_iff.1 hj).1
    rwa [C.len] at this
  rw [Nat.add_assoc]
  exact hc _ v (by rw [rows_at hk j hjs, hx]; exact hj)

theorem rows_set {l : List α} : ∀ {k : Nat}, k < l.length → ∀ (j : Nat) (v : Value) (y : α), j < C.s → C.cells y = (C.cells (l.getD k C.dflt)).set j v → (rows l).set (k * C.s + j) v = rows (l.set k y) := by
  induction l with
  | nil => intro k h; simp at h
  | cons a l ih =>
    intro k h j v y hj hy
    rw [rows_cons]
    match k with
    | 0 =>
      simp only [Nat.zero_mul, Nat.zero_add, List.set_cons_zero, rows_cons]
      rw [List.set_append_left _ _ (by rw [C.len]; exact hj)]
      simp at hy
      rw [hy]
    | k + 1 =>
      rw [List.set_append_right _ _ (by rw [C.len, Nat.succ_mul]; omega), C.len, show (k + 1) * C.s + j - C.s = k * C.s + j by rw [Nat.succ_mul]; omega, ih (k := k) (by simpa using h) j v y hj (by simpa using hy)]
      simp [rows_cons]

/-- A slice of records that reads as a list. -/
abbrev RdR (w : World) (A : Option Addr) (l : List α) : Prop := Rd w A (rows l)

/-- A slice of records in a row of its own. -/
def RetRows (l : List α) (w : World) (e : Ending) (w' : World) : Prop :=
  ∃ A c, e = .returned (.slice A l.length c) ∧ Rd w' A (rows l) ∧ l.length ≤ c ∧ (A = none → c = 0) ∧ Below w.heap.size w w'
end

/-- Numbers in a row of their own. -/
def RetIntsC (l : List Int) (w : World) (e : Ending) (w' : World) : Prop :=
  ∃ A c, e = .returned (.slice A l.length c) ∧ Rd w' A (ints l) ∧ l.length ≤ c ∧ (A = none → c = 0) ∧ Below w.heap.size w w'

/-- Numbers in a row that the caller may write. -/
def RetIntsO (l : List Int) (w : World) (e : Ending) (w' : World) : Prop :=
  ∃ A c, e = .returned (.slice A l.length c) ∧ w'.ownsRow w.heap.size 3 1 (.slice A l.length c) l.length (ints l) ∧ Below w.heap.size w w'

/-- The closure (f, caps), asked at a record's value in a world behind w, answers p x and leaves alone what was there. -/
def AsksV {α : Type} (val : α → Value) (w : World) (f : FuncId) (caps : Array Value) (p : α → Bool) (l : List α) : Prop :=
  ∀ x, x ∈ l → ∀ w', Below w.heap.size w w' → Calls Try.prog f (#[val x] ++ caps) w' fun e w'' => e = .returned (.bool (p x)) ∧ Below w'.heap.size w' w''

theorem AsksV.later {α : Type} {val : α → Value} {w w1 : World} {f : FuncId} {caps : Array Value} {p : α → Bool} {l : List α} (h : AsksV val w f caps p l) (hb : Below w.heap.size w w1) : AsksV val w1 f caps p l :=
  fun x hx w' hb' => h x hx w' (hb.trans (hb'.mono hb.size))

/-- Where the first one is of which p holds. -/
def firstV {α : Type} (p : α → Bool) : List α → Nat → Int
  | [], _ => -1
  | x :: r, k => if p x then (k : Int) else firstV p r (k + 1)

theorem firstV_none {α : Type} {p : α → Bool} : ∀ (l : List α) (k : Nat), (∀ x ∈ l, p x = false) → firstV p l k = -1
  | [], _, _ => rfl
  | x :: r, k, h => by simp [firstV, h x (by simp), firstV_none r (k + 1) (fun y hy => h y (by simp [hy]))]

theorem firstV_lo {α : Type} {p : α → Bool} : ∀ (l : List α) (k : Nat), -1 ≤ firstV p l k ∧ (0 ≤ firstV p l k ↔ l.any p = true)
  | [], k => by simp [firstV]
  | x :: r, k => by
    have := firstV_lo (p := p) r (k + 1)
    simp only [firstV, List.any_cons]
    by_cases h : p x = true
    · simp [h]
    · simp only [Bool.not_eq_true] at h; simp [h, this]

theorem firstV_hit {α : Type} {p : α → Bool} (d : α) : ∀ (l : List α) (k j : Nat) (_ : j < l.length), (∀ i, i < j → p (l.getD i d) = false) → p (l.getD j d) = true → firstV p l k = (k + j : Nat)
  | x :: r, k, 0, _, _, hj => by simp at hj; simp [firstV, hj]
  | x :: r, k, j + 1, h, hi, hj => by
    have h0 := hi 0 (by omega)
    simp at h0
    simp [firstV, h0]
    rw [firstV_hit d r (k + 1) j (by simpa using h) (fun i hl => by simpa using hi (i + 1) (by omega)) (by simpa using hj)]
    simp; omega

/-- What is ahead of the first one that is to go, and whether one is. -/
theorem firstV_spec {α : Type} {p : α → Bool} (d : α) : ∀ (l : List α) (k : Nat), (firstV p l k = -1 ∧ l.filter (fun x => !p x) = l) ∨ ∃ j : Nat, j < l.length ∧ firstV p l k = ((k + j : Nat) : Int) ∧ p (l.getD j d) = true ∧ (l.take j).filter (fun x => !p x) = l.take j
  | [], k => .inl ⟨rfl, rfl⟩
  | x :: r, k => by
    by_cases h : p x = true
    · right; exact ⟨0, by simp, by simp [firstV, h], by simpa using h, by simp⟩
    · simp only [Bool.not_eq_true] at h
      rcases firstV_spec (p := p) d r (k + 1) with ⟨h1, h2⟩ | ⟨j, h1, h2, h3, h4⟩
      · left; exact ⟨by simp [firstV, h, h1], by simp [h, h2]⟩
      · right
        refine ⟨j + 1, by simpa using h1, ?_, by simpa using h3, by simp [h, h4]⟩
        simp [firstV, h, h2]; omega

end Go.Proofs.Ytmllbailfbjoeaa
