/- slices.IndexFunc and slices.ContainsFunc over []int, at whatever closure answers as a plain test does and leaves alone what was there. -/
import Derived.Test.YtknlhkkpheahlaaDoorFnG
namespace Go.Proofs.YtknlhkkpheahlaaDoor
open Go.RowKit

/-- The closure (f, caps), asked at x in a world behind w, answers p x and leaves alone what was there. -/
def Asks (w : World) (f : FuncId) (caps : Array Value) (p : Int → Bool) (l : List Int) : Prop :=
  ∀ x, x ∈ l → ∀ w', Below w.heap.size w w' → Calls Tryd.prog f (#[.int .i64 x] ++ caps) w' fun e w'' => e = .returned (.bool (p x)) ∧ Below w'.heap.size w' w''

def firstAt (p : Int → Bool) : List Int → Nat → Int
  | [], _ => -1
  | x :: r, k => if p x then (k : Int) else firstAt p r (k + 1)

theorem firstAt_none {p : Int → Bool} : ∀ (l : List Int) (k : Nat), (∀ x ∈ l, p x = false) → firstAt p l k = -1
  | [], _, _ => rfl
  | x :: r, k, h => by simp [firstAt, h x (by simp), firstAt_none r (k + 1) (fun y hy => h y (by simp [hy]))]

theorem firstAt_lo {p : Int → Bool} : ∀ (l : List Int) (k : Nat), -1 ≤ firstAt p l k ∧ (0 ≤ firstAt p l k ↔ l.any p = true)
  | [], k => by simp [firstAt]
  | x :: r, k => by
    have := firstAt_lo (p := p) r (k + 1)
    simp only [firstAt, List.any_cons]
    by_cases h : p x = true
    · simp [h]
    · simp only [Bool.not_eq_true] at h; simp [h, this]

theorem firstAt_hit {p : Int → Bool} : ∀ (l : List Int) (k j : Nat) (_ : j < l.length), (∀ i, i < j → p (l.getD i 0) = false) → p (l.getD j 0) = true → firstAt p l k = (k + j : Nat)
  | x :: r, k, 0, _, _, hj => by simp at hj; simp [firstAt, hj]
  | x :: r, k, j + 1, h, hi, hj => by
    have h0 := hi 0 (by omega)
    simp at h0
    simp [firstAt, h0]
    rw [firstAt_hit r (k + 1) j (by simpa using h) (fun i hl => by simpa using hi (i + 1) (by omega)) (by simpa using hj)]
    simp; omega

set_option maxHeartbeats 400000 in
set_option maxRecDepth 100000 in
theorem IndexFunc_any (A : Option Addr) (c : Nat) (l : List Int) (f : FuncId) (caps : Array Value) (p : Int → Bool) (w : World) (hl : l.length ≤ maxLen)
    (hR : Rd w A (ints l)) (hf : Enters f) (hp : Asks w f caps p l) :
    Calls Tryd.prog 133 #[.slice A l.length c, .func (.func f) #[] caps] w fun e w' => e = .returned (.int .i64 (firstAt p l 0)) ∧ Below w.heap.size w w' := by
  unfold maxLen at hl
  have HR := Lib.hid hR
  have HP := Lib.hid hp
  clear hR hp
  generalize hn : l.length = n at hl ⊢
  have HN := Lib.hid hn
  clear hn
  go_enter Tryd.func133, Tryd.ntmps133
  go_wp2
  go_loopw [8] (fun i wr => ∃ k : Nat, k ≤ n ∧ i = .int .i64 k ∧ Below w.heap.size w wr ∧ ∀ j, j < k → p (l.getD j 0) = false) (fun i _ => n - (intOf i).toNat)
  case atStart => exact ⟨0, Nat.zero_le _, rfl, Below.refl _ _, fun j hj => absurd hj (by omega)⟩
  case round =>
    obtain ⟨k, hk, rfl, hb, hno⟩ := hrel
    have HNO := Lib.hid hno
    clear hno
    by_cases hlt : k < n
    · have hkl : k < l.length := by rw [HN.out]; exact hlt
      obtain ⟨b, o, rfl, hbl, hc⟩ := HR.out.at_ (by rw [ints_length]; omega)
      have hcell : wr.cell? ⟨b, o + k, none⟩ = some (.int .i64 (l.getD k 0)) := by
        rw [hb.cell (p := ⟨b, o + k, none⟩) hbl]; exact hc k _ (ints_at hkl)
      have HC := Lib.hid hc
      clear hc
      have hmem : l.getD k 0 ∈ l := by simp [hkl]
      generalize hx : l.getD k 0 = x at hcell hmem
      have HX := Lib.hid hx
      clear hx hkl
      have hcall := HP.out x hmem wr hb
      have HCALL := Lib.hid hcall
      clear hcall hmem
      have hrun := hf (#[.int .i64 x] ++ caps) wr
      by_cases hpx : p x = true
      · go_wp2_with (first | (refine HCALL.out.mono ?_; rintro e w1 ⟨rfl, hb1⟩))
        go_ret
        exact ⟨ret_int (by rw [firstAt_hit l 0 k (by rw [HN.out]; exact hlt) HNO.out (by rw [HX.out]; exact hpx)]; simp), hb.trans (hb1.mono hb.size)⟩
      · simp only [Bool.not_eq_true] at hpx
        go_wp2_with (first | (refine HCALL.out.mono ?_; rintro e w1 ⟨rfl, hb1⟩))
        go_roundw
        case rel =>
          refine ⟨k + 1, by omega, by go_num, hb.trans (hb1.mono hb.size), fun j hj => ?_⟩
          by_cases hjk : j = k
          · subst hjk; rw [HX.out]; exact hpx
          · exact HNO.out j (by omega)
        case measure => simp [intOf]; omega
    · go_wp2
      go_ret
      refine ⟨ret_int ?_, hb⟩
      rw [firstAt_none l 0 (fun x hx => ?_)]
      obtain ⟨j, hj, rfl⟩ := List.getElem_of_mem hx
      have := HNO.out j (by have := HN.out; omega)
      simpa [List.getD, hj] using this

set_option maxHeartbeats 400000 in
theorem ContainsFunc_any (A : Option Addr) (c : Nat) (l : List Int) (f : FuncId) (caps : Array Value) (p : Int → Bool) (w : World) (hl : l.length ≤ maxLen)
    (hR : Rd w A (ints l)) (hf : Enters f) (hp : Asks w f caps p l) :
    Calls Tryd.prog 116 #[.slice A l.length c, .func (.func f) #[] caps] w fun e w' => e = .returned (.bool (l.any p)) ∧ Below w.heap.size w w' := by
  have HI := Lib.hid (IndexFunc_any A c l f caps p w hl hR hf hp)
  have hlo := firstAt_lo (p := p) l 0
  have HL := Lib.hid hlo
  clear hR hp hf hl hlo
  by_cases h : 0 ≤ firstAt p l 0
  all_goals
    go_enter Tryd.func116, Tryd.ntmps116
    go_wp2_with (first | (refine HI.out.mono ?_; rintro e w1 ⟨rfl, hb1⟩))
    go_ret
    refine ⟨ret_bool ?_, hb1⟩
    have e := HL.out.2
    first | exact (e.1 h).symm | (rw [Bool.eq_iff_iff, decide_eq_true_iff]; exact e) | (rw [eq_comm, Bool.eq_false_iff]; exact fun h' => h (e.2 h'))

end Go.Proofs.YtknlhkkpheahlaaDoor
