/- Accesses: as values, as cells of a row; which change a word, which two may change places. -/
import Derived.Test.YtiioedgdhkndgaaDoorBase
namespace Go.Proofs.YtiioedgdhkndgaaDoor
open Go.RowKit Go.Sort

structure Acc where
  (thread kind addr want old now : Int)
  (ok : Bool)
deriving DecidableEq

abbrev accV (a : Acc) : Value := .agg #[.int .i64 a.thread, .int .i64 a.kind, .int .i64 a.addr, .int .u64 a.want, .int .u64 a.old, .int .u64 a.now, .bool a.ok]
def Acc.cells (a : Acc) : List Value := [.int .i64 a.thread, .int .i64 a.kind, .int .i64 a.addr, .int .u64 a.want, .int .u64 a.old, .int .u64 a.now, .bool a.ok]
def accs (l : List Acc) : List Value := l.flatMap Acc.cells

def Acc.none : Acc := ⟨0, 0, 0, 0, 0, 0, false⟩

theorem accs_length (l : List Acc) : (accs l).length = l.length * 7 := by
  induction l with
  | nil => rfl
  | cons a l ih => simp only [accs, List.flatMap_cons, List.length_append, List.length_cons] at *; rw [ih]; simp [Acc.cells]; omega

theorem accs_at {l : List Acc} : ∀ {k : Nat}, k < l.length → ∀ j, j < 7 → (accs l)[k * 7 + j]? = (l.getD k Acc.none).cells[j]? := by
  induction l with
  | nil => intro k h; simp at h
  | cons a l ih =>
    intro k h j hj
    simp only [accs, List.flatMap_cons]
    match k with
    | 0 => rw [List.getElem?_append_left (by simp [Acc.cells]; omega)]; simp
    | k + 1 =>
      rw [List.getElem?_append_right (by simp [Acc.cells]; omega)]
      have := ih (k := k) (by simpa using h) j hj
      simp only [accs] at this
      rw [show (k + 1) * 7 + j - a.cells.length = k * 7 + j by simp [Acc.cells]; omega, this]
      simp

/-- The seven cells of the access number k. -/
theorem acc_cells {w : World} {b o : Nat} {l : List Acc} (hc : ∀ k v, (accs l)[k]? = some v → w.cell? ⟨b, o + k, none⟩ = some v) {k : Nat} (hk : k < l.length) {x : Acc} (hx : l.getD k Acc.none = x) :
    w.cell? ⟨b, o + k * 7, none⟩ = some (.int .i64 x.thread) ∧ w.cell? ⟨b, o + k * 7 + 1, none⟩ = some (.int .i64 x.kind) ∧ w.cell? ⟨b, o + k * 7 + 2, none⟩ = some (.int .i64 x.addr) ∧ w.cell? ⟨b, o + k * 7 + 3, none⟩ = some (.int .u64 x.want) ∧
    w.cell? ⟨b, o + k * 7 + 4, none⟩ = some (.int .u64 x.old) ∧ w.cell? ⟨b, o + k * 7 + 5, none⟩ = some (.int .u64 x.now) ∧ w.cell? ⟨b, o + k * 7 + 6, none⟩ = some (.bool x.ok) := by
  have h := fun j hj v (hv : x.cells[j]? = some v) => hc (k * 7 + j) v (by rw [accs_at hk j hj, hx]; exact hv)
  refine ⟨h 0 (by omega) _ rfl, ?_, ?_, ?_, ?_, ?_, ?_⟩
  · rw [Nat.add_assoc]; exact h 1 (by omega) _ rfl
  · rw [Nat.add_assoc]; exact h 2 (by omega) _ rfl
  · rw [Nat.add_assoc]; exact h 3 (by omega) _ rfl
  · rw [Nat.add_assoc]; exact h 4 (by omega) _ rfl
  · rw [Nat.add_assoc]; exact h 5 (by omega) _ rfl
  · rw [Nat.add_assoc]; exact h 6 (by omega) _ rfl

def chgB (a : Acc) : Bool := a.kind != 1 && (a.kind != 3 || a.ok)
def freeB (a b : Acc) : Bool := a.thread != b.thread && (a.addr != b.addr || !chgB a && !chgB b)

set_option maxHeartbeats 400000 in
theorem Changes_any (a : Acc) (w : World) :
    Calls Tryd.prog 51 #[accV a] w fun e w' => e = .returned (.bool (chgB a)) ∧ Below w.heap.size w w' := by
  unfold accV
  by_cases h1 : a.kind = 1
  · have e1 : (a.kind == 1) = true := by simp [h1]
    have H1 := Lib.hid h1
    clear h1
    go_enter Tryd.func51, Tryd.ntmps51
    go_wp2
    go_ret
    exact ⟨ret_bool (by simp [chgB, H1.out]), (Below.refl _ _).alloc (Nat.le_refl _) _⟩
  by_cases h3 : a.kind = 3
  · have e1 : (a.kind == 1) = false := by simp [h3]
    have e3 : (a.kind == 3) = true := by simp [h3]
    have H3 := Lib.hid h3
    clear h1 h3
    go_enter Tryd.func51, Tryd.ntmps51
    go_wp2
    go_ret
    exact ⟨ret_bool (by simp [chgB, H3.out]), (Below.refl _ _).alloc (Nat.le_refl _) _⟩
  · have e1 : (a.kind == 1) = false := by simp [h1]
    have e3 : (a.kind == 3) = false := by simp [h3]
    have H := Lib.hid (And.intro h1 h3)
    clear h1 h3
    go_enter Tryd.func51, Tryd.ntmps51
    go_wp2
    go_ret
    exact ⟨ret_bool (by simp [chgB, H.out.1, H.out.2]), (Below.refl _ _).alloc (Nat.le_refl _) _⟩

set_option maxHeartbeats 400000 in
theorem rChanges_any (a : Acc) (w : World) :
    Calls Tryd.prog 52 #[accV a] w fun e w' => e = .returned (.bool (chgB a)) ∧ Below w.heap.size w w' := by
  unfold accV
  cases e1 : a.kind == 1 <;> cases e3 : a.kind == 3
  all_goals
    have n1 : (a.kind != 1) = !(a.kind == 1) := rfl
    have n3 : (a.kind != 3) = !(a.kind == 3) := rfl
    rw [e1] at n1
    rw [e3] at n3
    go_enter Tryd.func52, Tryd.ntmps52
    go_wp2
    go_ret
    refine ⟨ret_bool ?_, (Below.refl _ _).alloc (Nat.le_refl _) _⟩
    first | (simp [chgB, n1, n3]; done) | (unfold chgB; grind)

end Go.Proofs.YtiioedgdhkndgaaDoor
