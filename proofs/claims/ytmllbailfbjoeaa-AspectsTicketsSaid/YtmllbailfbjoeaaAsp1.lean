/- aspects: calls that ended well, those that took or put a value, whether a value may be gone. -/
import Derived.Test.YtmllbailfbjoeaaDelK
namespace Go.Proofs.Ytmllbailfbjoeaa
open Go.RowKit Go.Sort

def doneB (x : Kall) : Bool := !x.opn && x.code == 0

abbrev kbox (x : Kall) : Obj := .cells #[.int .i64 x.beg, .int .i64 x.fin, .bool x.opn, .bool x.put, .int .i64 x.value, .int .i64 x.code] 82

set_option maxHeartbeats 400000 in
theorem done_any (x : Kall) (w : World) : Calls Try.prog 78 #[kallV x] w fun e w' => e = .returned (.bool (doneB x)) ∧ Below w.heap.size w w' := by
  unfold kallV
  cases ho : x.opn
  all_goals
    go_enter Try.func78, Try.ntmps78
    go_wp2
    go_ret
    exact ⟨ret_bool (by simp [doneB, ho]), (Below.refl _ _).alloc (Nat.le_refl _) _⟩

/-- Is a call none that took the value? -/
def noTake (v : Int) (x : Kall) : Bool := x.put || !doneB x || x.value != v
def noPut (v : Int) (x : Kall) : Bool := !x.put || x.value != v
def takesS (l : List Kall) (v : Int) : List Kall := l.filter fun x => !noTake v x
def putsS (l : List Kall) (v : Int) : List Kall := l.filter fun x => !noPut v x

theorem takes1_enters : Enters 109 := enters_of Try.func109 (by kernel_rfl) (by kernel_rfl)
theorem puts1_enters : Enters 113 := enters_of Try.func113 (by kernel_rfl) (by kernel_rfl)
theorem gone1_enters : Enters 110 := enters_of Try.func110 (by kernel_rfl) (by kernel_rfl)

set_option maxHeartbeats 1000000 in
set_option maxRecDepth 100000 in
theorem takes1_any (x : Kall) (v : Int) (b : Nat) (w : World) (hb : b < w.heap.size) (hc : w.cell? ⟨b, 0, none⟩ = some (.int .i64 v)) :
    Calls Try.prog 109 #[kallV x, .pointer (some ⟨b, 0, none⟩)] w fun e w' => e = .returned (.bool (noTake v x)) ∧ Below w.heap.size w w' := by
  have HD := Lib.hid (done_any x)
  unfold kallV at HD ⊢
  have hne : ¬ b = w.heap.size := by omega
  cases hp : x.put
  · cases hd : doneB x
    all_goals
      rw [hd] at HD
      have HX := Lib.hid (And.intro hp hd)
      clear hd
      go_enter Try.func109, Try.ntmps109
      go_wp2_with fail
      rw [hp] at HD
      refine (HD.out _).mono ?_
      rintro e w1 ⟨rfl, hb1⟩
      have hc1 : w1.cell? ⟨b, 0, none⟩ = some (.int .i64 v) := by
        rw [hb1.cell (p := ⟨b, 0, none⟩) (by simp; omega), World.cell?_alloc_lt _ _ _ (by exact hb)]; exact hc
      have hv1 : w1.cell? ⟨w.heap.size, 4, none⟩ = some (.int .i64 x.value) := by
        rw [hb1.cell (p := ⟨w.heap.size, 4, none⟩) (by simp), World.cell?_alloc_at (hn := rfl)]; rfl
      go_wp2
      go_ret
      exact ⟨ret_bool (by simp [noTake, HX.out.1, HX.out.2]), ((Below.refl _ _).alloc (Nat.le_refl _) _).trans (hb1.mono (by simp))⟩
  · go_enter Try.func109, Try.ntmps109
    go_wp2
    go_ret
    exact ⟨ret_bool (by simp [noTake, hp]), (Below.refl _ _).alloc (Nat.le_refl _) _⟩

set_option maxHeartbeats 1000000 in
theorem puts1_any (x : Kall) (v : Int) (b : Nat) (w : World) (hb : b < w.heap.size) (hc : w.cell? ⟨b, 0, none⟩ = some (.int .i64 v)) :
    Calls Try.prog 113 #[kallV x, .pointer (some ⟨b, 0, none⟩)] w fun e w' => e = .returned (.bool (noPut v x)) ∧ Below w.heap.size w w' := by
  unfold kallV
  have hne : ¬ b = w.heap.size := by omega
  have hc2 : ∀ o, (w.alloc o).cell? ⟨b, 0, none⟩ = some (.int .i64 v) := fun o => by rw [World.cell?_alloc_lt _ _ _ (by exact hb)]; exact hc
  cases hp : x.put
  all_goals
    go_enter Try.func113, Try.ntmps113
    go_wp2
    go_ret
    exact ⟨ret_bool (by simp [noPut, hp]), (Below.refl _ _).alloc (Nat.le_refl _) _⟩

def openTake (till : Int) (x : Kall) : Bool := !x.put && x.opn && decide (x.beg ≤ till)

set_option maxHeartbeats 1000000 in
theorem gone1_any (x : Kall) (v : Int) (b : Nat) (w : World) (hb : b < w.heap.size) (hc : w.cell? ⟨b, 0, none⟩ = some (.int .i64 v)) :
    Calls Try.prog 110 #[kallV x, .pointer (some ⟨b, 0, none⟩)] w fun e w' => e = .returned (.bool (openTake v x)) ∧ Below w.heap.size w w' := by
  unfold kallV
  have hne : ¬ b = w.heap.size := by omega
  have hc2 : ∀ o, (w.alloc o).cell? ⟨b, 0, none⟩ = some (.int .i64 v) := fun o => by rw [World.cell?_alloc_lt _ _ _ (by exact hb)]; exact hc
  cases hp : x.put <;> cases ho : x.opn
  all_goals
    go_enter Try.func110, Try.ntmps110
    go_wp2
    go_ret
    exact ⟨ret_bool (by simp [openTake, hp, ho]), (Below.refl _ _).alloc (Nat.le_refl _) _⟩

set_option maxHeartbeats 1000000 in
set_option maxRecDepth 100000 in
theorem takes_any (A : Option Addr) (c : Nat) (l : List Kall) (v : Int) (w : World) (hl : l.length ≤ 1048576) (hR : Rd w A (rows l)) :
    Calls Try.prog 71 #[.slice A l.length c, .int .i64 v] w (RetRows (takesS l v) w) := by
  have HR := Lib.hid hR
  have HC := Lib.hid (fun W h => CloneK_any A l.length c (rows l) W (by omega) (by rw [rows_length]; rfl) (rows_one l) h)
  clear hR
  have HD := Lib.hid (fun A' c' W h1 h2 h3 => DelK_own A' c' (w.heap.size + 1) l 109 #[.pointer (some ⟨w.heap.size, 0, none⟩)] (noTake v) W hl h1 h2 takes1_enters h3)
  generalize hn : l.length = n at *
  have HN := Lib.hid hn
  clear hn
  go_enter Try.func71, Try.ntmps71
  go_wp2_with fail
  refine (HC.out _ (HR.out.alloc _)).mono ?_
  rintro e w1 ⟨A1, c1, rfl, hown, hb1⟩
  have e1 : (w.alloc (.cells #[.int .i64 v] 3)).heap.size = w.heap.size + 1 := by simp
  rw [e1] at hown hb1
  have HO := Lib.hid hown
  have HB1 := Lib.hid hb1
  have hc1 : w1.cell? ⟨w.heap.size, 0, none⟩ = some (.int .i64 v) := by
    rw [hb1.cell (p := ⟨w.heap.size, 0, none⟩) (by show w.heap.size < w.heap.size + 1; omega)]; simp
  have HC1 := Lib.hid hc1
  clear hown hb1 hc1 e1
  go_wp2_with fail
  refine (HD.out A1 c1 w1 HO.out (by have := HB1.out.size; simpa using this) ?_).mono ?_
  · intro x _ w' hb'
    have hsz : w.heap.size + 1 ≤ w1.heap.size := by have := HB1.out.size; simpa using this
    exact takes1_any x v w.heap.size w' (by have := hb'.size; omega) (by rw [hb'.cell (p := ⟨w.heap.size, 0, none⟩) (by show w.heap.size < w.heap.size + 1; omega)]; exact HC1.out)
  · rintro e w2 ⟨rfl, hr2, hb2⟩
    go_wp2
    go_ret
    have hle := own_le HO.out
    have hfl := List.length_filter_le (fun x => !noTake v x) l
    rw [HN.out] at hfl
    refine ⟨A1, c1, rfl, hr2, by unfold takesS; omega, fun h => (own_none HO.out h).2.1, ?_⟩
    exact ((((Below.refl _ _).alloc (Nat.le_refl _) _).trans (HB1.out.mono (by omega)))).trans (hb2.mono (by omega))

set_option maxHeartbeats 1000000 in
set_option maxRecDepth 100000 in
theorem puts_any (A : Option Addr) (c : Nat) (l : List Kall) (v : Int) (w : World) (hl : l.length ≤ 1048576) (hR : Rd w A (rows l)) :
    Calls Try.prog 81 #[.slice A l.length c, .int .i64 v] w (RetRows (putsS l v) w) := by
  have HR := Lib.hid hR
  have HC := Lib.hid (fun W h => CloneK_any A l.length c (rows l) W (by omega) (by rw [rows_length]; rfl) (rows_one l) h)
  clear hR
  have HD := Lib.hid (fun A' c' W h1 h2 h3 => DelK_own A' c' (w.heap.size + 1) l 113 #[.pointer (some ⟨w.heap.size, 0, none⟩)] (noPut v) W hl h1 h2 puts1_enters h3)
  generalize hn : l.length = n at *
  have HN := Lib.hid hn
  clear hn
  go_enter Try.func81, Try.ntmps81
  go_wp2_with fail
  refine (HC.out _ (HR.out.alloc _)).mono ?_
  rintro e w1 ⟨A1, c1, rfl, hown, hb1⟩
  have e1 : (w.alloc (.cells #[.int .i64 v] 3)).heap.size = w.heap.size + 1 := by simp
  rw [e1] at hown hb1
  have HO := Lib.hid hown
  have HB1 := Lib.hid hb1
  have hc1 : w1.cell? ⟨w.heap.size, 0, none⟩ = some (.int .i64 v) := by
    rw [hb1.cell (p := ⟨w.heap.size, 0, none⟩) (by show w.heap.size < w.heap.size + 1; omega)]; simp
  have HC1 := Lib.hid hc1
  clear hown hb1 hc1 e1
  go_wp2_with fail
  refine (HD.out A1 c1 w1 HO.out (by have := HB1.out.size; simpa using this) ?_).mono ?_
  · intro x _ w' hb'
    have hsz : w.heap.size + 1 ≤ w1.heap.size := by have := HB1.out.size; simpa using this
    exact puts1_any x v w.heap.size w' (by have := hb'.size; omega) (by rw [hb'.cell (p := ⟨w.heap.size, 0, none⟩) (by show w.heap.size < w.heap.size + 1; omega)]; exact HC1.out)
  · rintro e w2 ⟨rfl, hr2, hb2⟩
    go_wp2
    go_ret
    have hle := own_le HO.out
    have hfl := List.length_filter_le (fun x => !noPut v x) l
    rw [HN.out] at hfl
    refine ⟨A1, c1, rfl, hr2, by unfold putsS; omega, fun h => (own_none HO.out h).2.1, ?_⟩
    exact ((((Below.refl _ _).alloc (Nat.le_refl _) _).trans (HB1.out.mono (by omega)))).trans (hb2.mono (by omega))

/-- May the value be gone by then? -/
def goneS (l : List Kall) (v till : Int) : Bool := match takesS l v with
  | t :: _ => decide (t.beg ≤ till)
  | [] => l.any (openTake till)

set_option maxHeartbeats 1000000 in
set_option maxRecDepth 100000 in
theorem gone_any (A : Option Addr) (c : Nat) (l : List Kall) (v till : Int) (w : World) (hl : l.length ≤ 1048576) (hR : Rd w A (rows l)) :
    Calls Try.prog 72 #[.slice A l.length c, .int .i64 v, .int .i64 till] w fun e w' => e = .returned (.bool (goneS l v till)) ∧ Below w.heap.size w w' := by
  have HR := Lib.hid hR
  have HT := Lib.hid (fun W h => takes_any A c l v W hl h)
  have HH := Lib.hid (fun W h1 h2 => HasK_any A c l 110 #[.pointer (some ⟨w.heap.size, 0, none⟩)] (openTake till) W (by unfold maxLen; omega) h1 gone1_enters h2)
  clear hR
  generalize hn : l.length = n at *
  clear hn
  go_enter Try.func72, Try.ntmps72
  go_wp2_with fail
  refine (HT.out _ (HR.out.alloc _)).mono ?_
  rintro e w1 ⟨A1, c1, rfl, hr, _, _, hb1⟩
  have hB : Below w.heap.size w w1 := ((Below.refl _ _).alloc (Nat.le_refl _) _).trans (hb1.mono (by simp))
  have hc1 : w1.cell? ⟨w.heap.size, 0, none⟩ = some (.int .i64 till) := by
    rw [hb1.cell (p := ⟨w.heap.size, 0, none⟩) (by simp)]; simp
  have hs1 : w.heap.size < w1.heap.size := by have := hb1.size; simp at this; omega
  cases ht : takesS l v with
  | nil =>
    rw [ht] at hr
    have HG := Lib.hid (show goneS l v till = l.any (openTake till) by unfold goneS; rw [ht])
    clear ht hr hb1
    simp only [List.length_nil]
    go_wp2_with fail
    refine (HH.out w1 (HR.out.below hB) ?_).mono ?_
    · intro x _ w' hb'
      exact gone1_any x till w.heap.size w' (by have := hb'.size; omega) (by rw [hb'.cell (p := ⟨w.heap.size, 0, none⟩) hs1]; exact hc1)
    · rintro e w2 ⟨rfl, hb2⟩
      go_wp2
      go_ret
      exact ⟨ret_bool HG.out.symm, hB.trans (hb2.mono hB.size)⟩
  | cons t r =>
    rw [ht] at hr
    have HG := Lib.hid (show goneS l v till = decide (t.beg ≤ till) by unfold goneS; rw [ht])
    obtain ⟨b, o, rfl, hbl, hcr⟩ := hr.at_ (by rw [rows_length]; exact Nat.mul_pos (by simp) (by decide))
    have f0 := (kall_cells hcr (k := 0) (by simp) (x := t) rfl).1
    simp only [Nat.zero_mul, Nat.add_zero] at f0
    generalize hm : (t :: r).length = m
    have hm1 : (0 : Int) < (m : Int) := by rw [← hm]; simp
    have hm2 : 0 < m := by omega
    clear ht hr hcr hm hb1
    go_wp2
    go_quiet (fail)
    go_wp2
    go_ret
    exact ⟨ret_bool HG.out.symm, Below.drewN' hB nq⟩

end Go.Proofs.Ytmllbailfbjoeaa
