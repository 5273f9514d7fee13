/- The document's Values. -/
import Derived.Test.YtieglgahfeecbaaGreatDoorA10
import Derived.Test.YtieglgahfeecbaaGreatDoorA1
import Derived.Test.YtieglgahfeecbaaGreatDoorA11
namespace Go.Proofs.YtieglgahfeecbaaGreatDoor
open Go.RowKit Go.Sort

def doneB (x : Kall) : Bool := !x.opn && x.code == 0

abbrev kbox (x : Kall) : Obj := .cells #[.int .i64 x.beg, .int .i64 x.fin, .bool x.opn, .bool x.put, .int .i64 x.value, .int .i64 x.code] 105

set_option maxHeartbeats 400000 in
theorem done_any (x : Kall) (w : World) : Calls Tryz.prog 59 #[kallV x] w fun e w' => e = .returned (.bool (doneB x)) ∧ Below w.heap.size w w' := by
  unfold kallV
  cases ho : x.opn
  all_goals
    go_enter Tryz.func59, Tryz.ntmps59
    go_wp2
    go_ret
    exact ⟨ret_bool (by simp [doneB, ho]), (Below.refl _ _).alloc (Nat.le_refl _) _⟩

/-- Is a call none that took the value? -/
def noTake (v : Int) (x : Kall) : Bool := x.put || !doneB x || x.value != v
def noPut (v : Int) (x : Kall) : Bool := !x.put || x.value != v
def takesS (l : List Kall) (v : Int) : List Kall := l.filter fun x => !noTake v x
def putsS (l : List Kall) (v : Int) : List Kall := l.filter fun x => !noPut v x

theorem takes1_enters : Enters 92 := enters_of Tryz.func92 (by kernel_rfl) (by kernel_rfl)
theorem puts1_enters : Enters 94 := enters_of Tryz.func94 (by kernel_rfl) (by kernel_rfl)
theorem gone1_enters : Enters 93 := enters_of Tryz.func93 (by kernel_rfl) (by kernel_rfl)

set_option maxHeartbeats 1000000 in
set_option maxRecDepth 100000 in
theorem takes1_any (x : Kall) (v : Int) (b : Nat) (w : World) (hb : b < w.heap.size) (hc : w.cell? ⟨b, 0, none⟩ = some (.int .i64 v)) :
    Calls Tryz.prog 92 #[kallV x, .pointer (some ⟨b, 0, none⟩)] w fun e w' => e = .returned (.bool (noTake v x)) ∧ Below w.heap.size w w' := by
  have HD := Lib.hid (done_any x)
  unfold kallV at HD ⊢
  have hne : ¬ b = w.heap.size := by omega
  cases hp : x.put
  · cases hd : doneB x
    all_goals
      rw [hd] at HD
      have HX := Lib.hid (And.intro hp hd)
      clear hd
      go_enter Tryz.func92, Tryz.ntmps92
      go_wp2_with fail
      rw [hp] at HD
      refine (HD.out _).mono ?_
      rintro e w1 ⟨rfl, hb1⟩
      have hc1 : w1.cell? ⟨b, 0, none⟩ = some (.int .i64 v) := by
        rw [hb1.cell (p := ⟨b, 0, none⟩) (by simp; omega), World.cell?_alloc_lt _ _ _ (by exact hb)]; exact hc
      have hv1 : w1.cell? ⟨w.heap.size, 4, none⟩ = some (.int .i64 x.value) := by
        rw [hb1.cell (p := ⟨w.heap.size, 4, none⟩) (by simp), World.cell?_alloc_at (hn := rfl)]; rfl
      go_wp2
      go_ret
      exact ⟨ret_bool (by simp [noTake, HX.out.1, HX.out.2]), ((Below.refl _ _).alloc (Nat.le_refl _) _).trans (hb1.mono (by simp))⟩
  · go_enter Tryz.func92, Tryz.ntmps92
    go_wp2
    go_ret
    exact ⟨ret_bool (by simp [noTake, hp]), (Below.refl _ _).alloc (Nat.le_refl _) _⟩

set_option maxHeartbeats 1000000 in
theorem puts1_any (x : Kall) (v : Int) (b : Nat) (w : World) (hb : b < w.heap.size) (hc : w.cell? ⟨b, 0, none⟩ = some (.int .i64 v)) :
    Calls Tryz.prog 94 #[kallV x, .pointer (some ⟨b, 0, none⟩)] w fun e w' => e = .returned (.bool (noPut v x)) ∧ Below w.heap.size w w' := by
  unfold kallV
  have hne : ¬ b = w.heap.size := by omega
  have hc2 : ∀ o, (w.alloc o).cell? ⟨b, 0, none⟩ = some (.int .i64 v) := fun o => by rw [World.cell?_alloc_lt _ _ _ (by exact hb)]; exact hc
  cases hp : x.put
  all_goals
    go_enter Tryz.func94, Tryz.ntmps94
    go_wp2
    go_ret
    exact ⟨ret_bool (by simp [noPut, hp]), (Below.refl _ _).alloc (Nat.le_refl _) _⟩

def openTake (till : Int) (x : Kall) : Bool := !x.put && x.opn && decide (x.beg ≤ till)

set_option maxHeartbeats 1000000 in
theorem gone1_any (x : Kall) (v : Int) (b : Nat) (w : World) (hb : b < w.heap.size) (hc : w.cell? ⟨b, 0, none⟩ = some (.int .i64 v)) :
    Calls Tryz.prog 93 #[kallV x, .pointer (some ⟨b, 0, none⟩)] w fun e w' => e = .returned (.bool (openTake v x)) ∧ Below w.heap.size w w' := by
  unfold kallV
  have hne : ¬ b = w.heap.size := by omega
  have hc2 : ∀ o, (w.alloc o).cell? ⟨b, 0, none⟩ = some (.int .i64 v) := fun o => by rw [World.cell?_alloc_lt _ _ _ (by exact hb)]; exact hc
  cases hp : x.put <;> cases ho : x.opn
  all_goals
    go_enter Tryz.func93, Tryz.ntmps93
    go_wp2
    go_ret
    exact ⟨ret_bool (by simp [openTake, hp, ho]), (Below.refl _ _).alloc (Nat.le_refl _) _⟩

set_option maxHeartbeats 1000000 in
set_option maxRecDepth 100000 in
theorem takes_any (A : Option Addr) (c : Nat) (l : List Kall) (v : Int) (w : World) (hl : l.length ≤ 1048576) (hR : Rd w A (rows l)) :
    Calls Tryz.prog 54 #[.slice A l.length c, .int .i64 v] w (RetRows (takesS l v) w) := by
  have HR := Lib.hid hR
  have HC := Lib.hid (fun W h => CloneK_any A l.length c (rows l) W (by omega) (by rw [rows_length]; rfl) (rows_one l) h)
  clear hR
  have HD := Lib.hid (fun A' c' W h1 h2 h3 => DelK_own A' c' (w.heap.size + 1) l 92 #[.pointer (some ⟨w.heap.size, 0, none⟩)] (noTake v) W hl h1 h2 takes1_enters h3)
  generalize hn : l.length = n at *
  have HN := Lib.hid hn
  clear hn
  go_enter Tryz.func54, Tryz.ntmps54
  go_wp2_with fail
  refine (HC.out _ (HR.out.alloc _)).mono ?_
  rintro e w1 ⟨A1, c1, rfl, hown, hb1⟩
  have e1 : (w.alloc (.cells #[.int .i64 v] 3)).heap.size = w.heap.size + 1 := by simp
  rw [e1] at hown hb1
  have HO := Lib.hid hown
  have HB1 := Lib.hid hb1
  have hc1 : w1.cell? ⟨w.heap.size, 0, none⟩ = some (.int .i64 v) := by
    rw [hb1.cell (p := ⟨w.heap.size, 0, none⟩) (by show w.heap.size < w.heap.size + 1; omega)]; simp
  have HC1 := Lib.hid hc1
  clear hown hb1 hc1 e1
  go_wp2_with fail
  refine (HD.out A1 c1 w1 HO.out (by have := HB1.out.size; simpa using this) ?_).mono ?_
  · intro x _ w' hb'
    have hsz : w.heap.size + 1 ≤ w1.heap.size := by have := HB1.out.size; simpa using this
    exact takes1_any x v w.heap.size w' (by have := hb'.size; omega) (by rw [hb'.cell (p := ⟨w.heap.size, 0, none⟩) (by show w.heap.size < w.heap.size + 1; omega)]; exact HC1.out)
  · rintro e w2 ⟨rfl, hr2, hb2⟩
    go_wp2
    go_ret
    have hle := own_le HO.out
    have hfl := List.length_filter_le (fun x => !noTake v x) l
    rw [HN.out] at hfl
    refine ⟨A1, c1, rfl, hr2, by unfold takesS; omega, fun h => (own_none HO.out h).2.1, ?_⟩
    exact ((((Below.refl _ _).alloc (Nat.le_refl _) _).trans (HB1.out.mono (by omega)))).trans (hb2.mono (by omega))

set_option maxHeartbeats 1000000 in
set_option maxRecDepth 100000 in
theorem puts_any (A : Option Addr) (c : Nat) (l : List Kall) (v : Int) (w : World) (hl : l.length ≤ 1048576) (hR : Rd w A (rows l)) :
    Calls Tryz.prog 56 #[.slice A l.length c, .int .i64 v] w (RetRows (putsS l v) w) := by
  have HR := Lib.hid hR
  have HC := Lib.hid (fun W h => CloneK_any A l.length c (rows l) W (by omega) (by rw [rows_length]; rfl) (rows_one l) h)
  clear hR
  have HD := Lib.hid (fun A' c' W h1 h2 h3 => DelK_own A' c' (w.heap.size + 1) l 94 #[.pointer (some ⟨w.heap.size, 0, none⟩)] (noPut v) W hl h1 h2 puts1_enters h3)
  generalize hn : l.length = n at *
  have HN := Lib.hid hn
  clear hn
  go_enter Tryz.func56, Tryz.ntmps56
  go_wp2_with fail
  refine (HC.out _ (HR.out.alloc _)).mono ?_
  rintro e w1 ⟨A1, c1, rfl, hown, hb1⟩
  have e1 : (w.alloc (.cells #[.int .i64 v] 3)).heap.size = w.heap.size + 1 := by simp
  rw [e1] at hown hb1
  have HO := Lib.hid hown
  have HB1 := Lib.hid hb1
  have hc1 : w1.cell? ⟨w.heap.size, 0, none⟩ = some (.int .i64 v) := by
    rw [hb1.cell (p := ⟨w.heap.size, 0, none⟩) (by show w.heap.size < w.heap.size + 1; omega)]; simp
  have HC1 := Lib.hid hc1
  clear hown hb1 hc1 e1
  go_wp2_with fail
  refine (HD.out A1 c1 w1 HO.out (by have := HB1.out.size; simpa using this) ?_).mono ?_
  · intro x _ w' hb'
    have hsz : w.heap.size + 1 ≤ w1.heap.size := by have := HB1.out.size; simpa using this
    exact puts1_any x v w.heap.size w' (by have := hb'.size; omega) (by rw [hb'.cell (p := ⟨w.heap.size, 0, none⟩) (by show w.heap.size < w.heap.size + 1; omega)]; exact HC1.out)
  · rintro e w2 ⟨rfl, hr2, hb2⟩
    go_wp2
    go_ret
    have hle := own_le HO.out
    have hfl := List.length_filter_le (fun x => !noPut v x) l
    rw [HN.out] at hfl
    refine ⟨A1, c1, rfl, hr2, by unfold putsS; omega, fun h => (own_none HO.out h).2.1, ?_⟩
    exact ((((Below.refl _ _).alloc (Nat.le_refl _) _).trans (HB1.out.mono (by omega)))).trans (hb2.mono (by omega))

/-- May the value be gone by then? -/
def goneS (l : List Kall) (v till : Int) : Bool := match takesS l v with
  | t :: _ => decide (t.beg ≤ till)
  | [] => l.any (openTake till)

set_option maxHeartbeats 1000000 in
set_option maxRecDepth 100000 in
theorem gone_any (A : Option Addr) (c : Nat) (l : List Kall) (v till : Int) (w : World) (hl : l.length ≤ 1048576) (hR : Rd w A (rows l)) :
    Calls Tryz.prog 55 #[.slice A l.length c, .int .i64 v, .int .i64 till] w fun e w' => e = .returned (.bool (goneS l v till)) ∧ Below w.heap.size w w' := by
  have HR := Lib.hid hR
  have HT := Lib.hid (fun W h => takes_any A c l v W hl h)
  have HH := Lib.hid (fun W h1 h2 => HasK_any A c l 93 #[.pointer (some ⟨w.heap.size, 0, none⟩)] (openTake till) W (by unfold maxLen; omega) h1 gone1_enters h2)
  clear hR
  generalize hn : l.length = n at *
  clear hn
  go_enter Tryz.func55, Tryz.ntmps55
  go_wp2_with fail
  refine (HT.out _ (HR.out.alloc _)).mono ?_
  rintro e w1 ⟨A1, c1, rfl, hr, _, _, hb1⟩
  have hB : Below w.heap.size w w1 := ((Below.refl _ _).alloc (Nat.le_refl _) _).trans (hb1.mono (by simp))
  have hc1 : w1.cell? ⟨w.heap.size, 0, none⟩ = some (.int .i64 till) := by
    rw [hb1.cell (p := ⟨w.heap.size, 0, none⟩) (by simp)]; simp
  have hs1 : w.heap.size < w1.heap.size := by have := hb1.size; simp at this; omega
  cases ht : takesS l v with
  | nil =>
    rw [ht] at hr
    have HG := Lib.hid (show goneS l v till = l.any (openTake till) by unfold goneS; rw [ht])
    clear ht hr hb1
    simp only [List.length_nil]
    go_wp2_with fail
    refine (HH.out w1 (HR.out.below hB) ?_).mono ?_
    · intro x _ w' hb'
      exact gone1_any x till w.heap.size w' (by have := hb'.size; omega) (by rw [hb'.cell (p := ⟨w.heap.size, 0, none⟩) hs1]; exact hc1)
    · rintro e w2 ⟨rfl, hb2⟩
      go_wp2
      go_ret
      exact ⟨ret_bool HG.out.symm, hB.trans (hb2.mono hB.size)⟩
  | cons t r =>
    rw [ht] at hr
    have HG := Lib.hid (show goneS l v till = decide (t.beg ≤ till) by unfold goneS; rw [ht])
    obtain ⟨b, o, rfl, hbl, hcr⟩ := hr.at_ (by rw [rows_length]; exact Nat.mul_pos (by simp) (by decide))
    have f0 := (kall_cells hcr (k := 0) (by simp) (x := t) rfl).1
    simp only [Nat.zero_mul, Nat.add_zero] at f0
    generalize hm : (t :: r).length = m
    have hm1 : (0 : Int) < (m : Int) := by rw [← hm]; simp
    have hm2 : 0 < m := by omega
    clear ht hr hcr hm hb1
    go_wp2
    go_quiet (fail)
    go_wp2
    go_ret
    exact ⟨ret_bool HG.out.symm, Below.drewN' hB nq⟩

end Go.Proofs.YtieglgahfeecbaaGreatDoor

namespace Go.Proofs.YtieglgahfeecbaaGreatDoor
open Go.RowKit Go.Sort

theorem take_succ_K (l : List Kall) (j : Nat) (h : j < l.length) : l.take (j + 1) = l.take j ++ [l.getD j Kall.none] := take_succ_getD l Kall.none j h

theorem puts_step {l : List Kall} {k : Nat} {v : Int} (h : k < l.length) : (putsS (l.take (k + 1)) v).length = (putsS (l.take k) v).length + (if ((l.getD k Kall.none).put && (l.getD k Kall.none).value == v) = true then 1 else 0) := by
  unfold putsS
  rw [take_succ_K l k h, List.filter_append, List.length_append]
  congr 1
  generalize l.getD k Kall.none = x
  simp only [List.filter_cons, List.filter_nil, noPut]
  by_cases h1 : x.put = true <;> by_cases h2 : x.value = v <;> simp [h1, h2]

theorem puts_take_le (l : List Kall) (v : Int) (k : Nat) : (putsS (l.take k) v).length ≤ k := by
  have := List.length_filter_le (fun x => !noPut v x) (l.take k)
  simp only [List.length_take] at this
  unfold putsS
  omega

/-- The first of them. -/
def headK (l : List Kall) : Kall := l.getD 0 Kall.none

end Go.Proofs.YtieglgahfeecbaaGreatDoor

namespace Go.Proofs.YtieglgahfeecbaaGreatDoor
open Go.RowKit Go.Sort

theorem blk_six {W : World} {g : Nat} {t : TypeId} {y : Kall} (h : Blk W g t y.cells) (x : Kall) :
    Blk ((((((W.setCell ⟨g, 0, none⟩ (.int .i64 x.beg)).setCell ⟨g, 1, none⟩ (.int .i64 x.fin)).setCell ⟨g, 2, none⟩ (.bool x.opn)).setCell ⟨g, 3, none⟩ (.bool x.put)).setCell ⟨g, 4, none⟩ (.int .i64 x.value)).setCell ⟨g, 5, none⟩ (.int .i64 x.code)) g t x.cells :=
  (((((h.set_ 0 (.int .i64 x.beg)).set_ 1 (.int .i64 x.fin)).set_ 2 (.bool x.opn)).set_ 3 (.bool x.put)).set_ 4 (.int .i64 x.value)).set_ 5 (.int .i64 x.code)
theorem only_six (g : Nat) (W : World) (x : Kall) : Only g W ((((((W.setCell ⟨g, 0, none⟩ (.int .i64 x.beg)).setCell ⟨g, 1, none⟩ (.int .i64 x.fin)).setCell ⟨g, 2, none⟩ (.bool x.opn)).setCell ⟨g, 3, none⟩ (.bool x.put)).setCell ⟨g, 4, none⟩ (.int .i64 x.value)).setCell ⟨g, 5, none⟩ (.int .i64 x.code)) :=
  ((((((Only.refl g W).set_ _ _).set_ _ _).set_ _ _).set_ _ _).set_ _ _).set_ _ _
theorem blk_only {g q : Nat} {a w : World} {t : TypeId} {cs : List Value} (h : Blk a q t cs) (ho : Only g a w) (hn : q ≠ g) : Blk w q t cs := (ho.block q h.lt hn).trans h

theorem takes_snoc {l : List Kall} {k : Nat} {v : Int} (h : k < l.length) : takesS (l.take (k + 1)) v = takesS (l.take k) v ++ (if noTake v (l.getD k Kall.none) = true then [] else [l.getD k Kall.none]) := by
  unfold takesS
  rw [take_succ_K l k h, List.filter_append]
  congr 1
  generalize l.getD k Kall.none = x
  by_cases hx : noTake v x = true
  · simp [hx]
  · simp [hx]

theorem takes_take_le (l : List Kall) (v : Int) (k : Nat) : (takesS (l.take k) v).length ≤ k := by
  have := List.length_filter_le (fun x => !noTake v x) (l.take k)
  simp only [List.length_take] at this
  unfold takesS
  omega

/-- The first one that took it, and how many did. -/
def RetTook (t : List Kall) (w : World) (e : Ending) (w' : World) : Prop := e = .returned (.tuple #[kallV (headK t), .int .i64 ((t.length : Nat) : Int)]) ∧ Below w.heap.size w w'

end Go.Proofs.YtieglgahfeecbaaGreatDoor

namespace Go.Proofs.YtieglgahfeecbaaGreatDoor
open Go.RowKit Go.Sort

def sureB (l : List Kall) (x : Kall) : Bool := x.put && doneB x && decide ((putsS l x.value).length = 1)

end Go.Proofs.YtieglgahfeecbaaGreatDoor

namespace Go.Proofs.YtieglgahfeecbaaGreatDoor
open Go.RowKit Go.Sort

theorem firstAt_V (p : Int → Bool) : ∀ (l : List Int) (k : Nat), firstAt p l k = firstV p l k
  | [], _ => rfl
  | x :: r, k => by simp [firstAt, firstV, firstAt_V p r (k + 1)]

theorem int_zero0 (w : World) : (zeroValue 3).run Tryz.prog w = .ok (.int .i64 0) w := by kernel_rfl

/-- What is left of a row of numbers that the caller owns. -/
def RetDelI (A : Option Addr) (c g : Nat) (l : List Int) (w : World) (e : Ending) (w' : World) : Prop :=
  e = .returned (.slice A l.length c) ∧ Rd w' A (ints l) ∧ Only g w w'
def RetDelBI (A : Option Addr) (c base : Nat) (l : List Int) (w : World) (e : Ending) (w' : World) : Prop :=
  e = .returned (.slice A l.length c) ∧ Rd w' A (ints l) ∧ Below base w w'

set_option maxHeartbeats 4000000 in
set_option maxRecDepth 100000 in
theorem DelI_any (g c base : Nat) (l : List Int) (f : FuncId) (caps : Array Value) (p : Int → Bool) (w : World) (hl : l.length ≤ 1048576)
    (hown : w.ownsRow base 3 1 (.slice (some ⟨g, 0, none⟩) l.length c) l.length (ints l)) (hf : Enters f) (hp : AsksO (Value.int .i64) w g f caps p l) :
    Calls Tryz.prog 62 #[.slice (some ⟨g, 0, none⟩) l.length c, .func (.func f) #[] caps] w (RetDelI (some ⟨g, 0, none⟩) c g (l.filter fun x => !p x) w) := by
  have HO := Lib.hid hown
  have HP := Lib.hid hp
  have HI := Lib.hid (IndexFunc_any (some ⟨g, 0, none⟩) c l f caps p w (by unfold maxLen; omega) (own_rd hown) hf hp.toV)
  have hnc := own_le hown
  rw [firstAt_V] at HI
  have HFS := Lib.hid (firstV_spec (p := p) 0 l 0)
  clear hown hp
  generalize hn : l.length = n at *
  have HN := Lib.hid hn
  clear hn
  go_enter Tryz.func62, Tryz.ntmps62
  go_wp2_with fail
  refine HI.out.mono ?_
  rintro e w1 ⟨rfl, hb1⟩
  have hO1 : Only g w w1 := .of_below hb1
  have HW1 := Lib.hid (own_below HO.out hb1)
  have HO1 := Lib.hid hO1
  clear hb1 hO1
  rcases HFS.out with ⟨h1, h2⟩ | ⟨j0, h1, h2, h3, h4⟩
  · rw [h1]
    have H2 := Lib.hid h2
    clear h1 h2
    go_wp2
    go_ret
    rw [H2.out]
    exact ⟨ret_slice HN.out.symm, own_rd HW1.out, HO1.out⟩
  · rw [h2, Nat.zero_add]
    have hne : ((j0 : Int) == -1) = false := by simp
    have H34 := Lib.hid (And.intro h3 h4)
    clear h2 h3 h4
    go_wp2
    go_loopg [5, 6] (n - (j0 + 1)) (fun q i j wr => ∃ k : Nat, j0 < k ∧ k ≤ n ∧ q = n - k ∧ j = .int .i64 k ∧ i = .int .i64 ((((l.take k).filter (fun x => !p x)).length : Nat) : Int) ∧ Only g w wr ∧ wr.ownsRow base 3 1 (.slice (some ⟨g, 0, none⟩) n c) n (ints (keptRow p l k)))
    case atStart =>
      have hj : j0 < l.length := by rw [HN.out]; exact h1
      have e1 : ((l.take (j0 + 1)).filter (fun x => !p x)) = l.take j0 := by
        rw [take_succ_getD l 0 j0 hj, List.filter_append, H34.out.2]
        simp only [List.filter_cons, H34.out.1, Bool.not_true, Bool.false_eq_true, if_false, List.filter_nil, List.append_nil]
      refine ⟨j0 + 1, by omega, by omega, rfl, by go_num, ?_, HO1.out, ?_⟩
      · rw [e1, List.length_take, Nat.min_eq_left (by omega)]
      · have e2 : keptRow p l (j0 + 1) = l := by
          unfold keptRow
          rw [e1, List.length_take, Nat.min_eq_left (by omega), List.take_append_drop]
        rw [e2]
        exact HW1.out
    case round =>
      obtain ⟨k, hk0, hk, hq, rfl, rfl, hOr, hWr⟩ := hrel
      have HOR := Lib.hid hOr
      have HWR := Lib.hid hWr
      have HQ := Lib.hid hq
      have hkl := kept_len p l k
      clear hOr hWr hq
      by_cases hlt : k < n
      · have hkn : k < l.length := by rw [HN.out]; exact hlt
        have hgl : g < wr.heap.size := by
          obtain ⟨g', hg', _, hlt'⟩ := own_some HWR.out (by omega)
          injection hg' with hg'
          injection hg' with hg'
          subst hg'
          exact hlt'
        obtain ⟨_, _, he, _, hc⟩ := (own_rd HWR.out).at_ (by rw [ints_length, kept_length p l k (by omega)]; omega)
        simp only [Option.some.injEq, Addr.mk.injEq, and_true] at he
        obtain ⟨rfl, rfl⟩ := he
        generalize hx : l.getD k 0 = x
        have hmem : x ∈ l := by rw [← hx]; simp [List.getD, hkn]
        have c0 := hc k _ (ints_at (by rw [kept_length p l k (by omega)]; exact hkn))
        rw [kept_getD p l 0 k k (Nat.le_refl _), hx] at c0
        simp only [Nat.zero_add] at c0
        have HX := Lib.hid hx
        have HM := Lib.hid hmem
        clear hc hx hmem
        generalize hi : ((l.take k).filter (fun x => !p x)).length = i at *
        have HI2 := Lib.hid hi
        clear hi
        have hrun := hf (#[.int .i64 x] ++ caps) wr
        have HBX := HOR
        have HCALL := Lib.hid (HP.out x HM.out _ HBX.out)
        have q1 : (0 : Int) ≤ (k : Int) := by omega
        have q2 : (k : Int) < (n : Int) := by omega
        by_cases hpx : p x = true
        · rw [hpx] at HCALL
          go_wp2_with (first | (refine HCALL.out.mono ?_; rintro e w2 ⟨rfl, hb2⟩))
          go_roundg (n - (k + 1))
          case measure => rw [HQ.out]; omega
          case rel =>
            refine ⟨k + 1, by omega, by omega, rfl, by go_num, ?_, HBX.out.trans (.of_below hb2), ?_⟩
            · have e := take_succ_getD l 0 k hkn
              rw [e, List.filter_append, HX.out]
              simp only [List.filter_cons, hpx, Bool.not_true, Bool.false_eq_true, if_false, List.filter_nil, List.append_nil]
              rw [HI2.out]
            · rw [kept_drop hkn (by rw [HX.out]; exact hpx)]
              exact own_below HWR.out hb2
        · simp only [Bool.not_eq_true] at hpx
          rw [hpx] at HCALL
          go_wp2_with fail
          refine HCALL.out.mono ?_
          rintro e w2 ⟨rfl, hb2⟩
          have hW2 := own_below HWR.out hb2
          have hO2 : Only g w w2 := HBX.out.trans (.of_below hb2)
          obtain ⟨_, _, he, _, hc⟩ := (own_rd hW2).at_ (by rw [ints_length, kept_length p l k (by omega)]; omega)
          simp only [Option.some.injEq, Addr.mk.injEq, and_true] at he
          obtain ⟨rfl, rfl⟩ := he
          have d0 := hc i _ (ints_at (by rw [kept_length p l k (by omega)]; omega))
          simp only [Nat.zero_add] at d0
          obtain ⟨_, hge, _, _, hfz, _⟩ := own_form hW2 (by omega)
          injection hge with hge
          injection hge with hge
          subst hge
          have f0 := hfz i
          have HW3 := Lib.hid (own_set hW2 (by omega) i (.int .i64 x) (by omega))
          rw [ints_set] at HW3
          have HO3 := Lib.hid (hO2.set_ i (.int .i64 x))
          have q3 : (0 : Int) ≤ (i : Int) := by omega
          have q4 : (i : Int) < (n : Int) := by omega
          generalize (keptRow p l k).getD i 0 = y at *
          clear hc hfz hb2 hW2 hO2
          go_wp2
          go_roundg (n - (k + 1))
          case measure => rw [HQ.out]; omega
          case rel =>
            have hst := kept_stay (p := p) (l := l) (d := 0) hkn (by rw [HX.out]; exact hpx)
            rw [HX.out, HI2.out] at hst
            refine ⟨k + 1, by omega, by omega, rfl, by go_num, by rw [hst.2]; go_num, HO3.out, ?_⟩
            rw [hst.1]
            exact HW3.out
      · obtain rfl : k = n := by omega
        have hll : ((l.take k).filter (fun x => !p x)) = l.filter (fun x => !p x) := by rw [List.take_of_length_le (by rw [HN.out]; omega)]
        have hin : ((l.take k).filter (fun x => !p x)).length < k := by
          rw [hll]
          have h := List.length_filter_lt_length_iff_exists (p := fun x => !p x) (l := l) |>.2 ⟨l.getD j0 0, by simp [List.getD, (by rw [HN.out]; exact h1 : j0 < l.length)], by rw [H34.out.1]; simp⟩
          rw [HN.out] at h
          exact h
        obtain ⟨w3, hcl, hO3, hR3⟩ := clear_own (s := 1) Tryz.underlying22 int_zero0 rfl (by simp [Value.cells, Value.oneCell']) HWR.out hin
        have HFIN := Lib.hid (show Rd w3 (some ⟨g, 0, none⟩) (ints (l.filter fun x => !p x)) by
          have e : (ints (keptRow p l k)).take (((l.take k).filter (fun x => !p x)).length * 1) = ints (l.filter fun x => !p x) := by
            unfold ints keptRow
            rw [Nat.mul_one, ← List.map_take, List.take_left, hll]
          rw [e] at hR3
          exact hR3)
        have HLE := Lib.hid (show ((l.take k).filter (fun x => !p x)).length = (l.filter fun x => !p x).length by rw [hll])
        simp only [Nat.mul_one] at hcl
        clear hll hR3
        generalize ((l.take k).filter (fun x => !p x)).length = i at *
        have hci : ¬ c = i := by omega
        have q1 : (0 : Int) ≤ (i : Int) := by omega
        have q2 : (i : Int) ≤ (k : Int) := by omega
        have q3 : (i : Int) ≤ (c : Int) := by omega
        go_wp2
        go_ret
        exact ⟨ret_slice HLE.out, HFIN.out, HOR.out.trans hO3⟩

set_option maxHeartbeats 400000 in
theorem DelI_nil (c base : Nat) (f : FuncId) (caps : Array Value) (p : Int → Bool) (w : World) (hbase : base ≤ w.heap.size) (hf : Enters f) :
    Calls Tryz.prog 62 #[.slice none 0 c, .func (.func f) #[] caps] w (RetDelBI none c base ([] : List Int) w) := by
  have HI := Lib.hid (IndexFunc_any none c [] f caps p w (by simp) (.inl rfl) hf (fun x hx => by cases hx))
  rw [show firstAt p ([] : List Int) 0 = -1 from rfl] at HI
  simp only [List.length_nil] at HI
  clear hf
  go_enter Tryz.func62, Tryz.ntmps62
  go_wp2_with fail
  refine HI.out.mono ?_
  rintro e w1 ⟨rfl, hb1⟩
  go_wp2
  go_ret
  exact ⟨rfl, .inl rfl, hb1.mono hbase⟩

set_option maxHeartbeats 1000000 in
set_option maxRecDepth 100000 in
theorem DelI_own (A : Option Addr) (c base : Nat) (l : List Int) (f : FuncId) (caps : Array Value) (p : Int → Bool) (w : World) (hl : l.length ≤ 1048576)
    (hown : w.ownsRow base 3 1 (.slice A l.length c) l.length (ints l)) (hbase : base ≤ w.heap.size) (hf : Enters f) (hp : AsksB (Value.int .i64) base w f caps p l) :
    Calls Tryz.prog 62 #[.slice A l.length c, .func (.func f) #[] caps] w (RetDelBI A c base (l.filter fun x => !p x) w) := by
  cases A with
  | some ad =>
    obtain ⟨g, c', cur, hv, hg, r⟩ := hown.2.resolve_left (by rintro ⟨h, _⟩; cases h)
    injection hv with hv _ hc
    injection hv with hv
    subst hv hc
    refine (DelI_any g c base l f caps p w hl hown hf (fun x hx w' ho => hp x hx w' (ho.below hg hbase))).mono ?_
    rintro e w' ⟨h1, h2, h3⟩
    exact ⟨h1, h2, h3.below hg hbase⟩
  | none =>
    obtain ⟨h0, _, _⟩ := own_none hown rfl
    obtain rfl : l = [] := List.eq_nil_of_length_eq_zero h0
    exact DelI_nil c base f caps p w hbase hf

end Go.Proofs.YtieglgahfeecbaaGreatDoor

namespace Go.Proofs.YtieglgahfeecbaaGreatDoor
open Go.RowKit Go.Sort

set_option maxHeartbeats 400000 in
set_option maxRecDepth 100000 in
theorem IndexI_any (A : Option Addr) (c : Nat) (l : List Int) (v : Int) (w : World) (hl : l.length ≤ maxLen) (hR : Rd w A (ints l)) :
    Calls Tryz.prog 96 #[.slice A l.length c, .int .i64 v] w fun e w' => e = .returned (.int .i64 (firstV (fun x => v == x) l 0)) ∧ w = w' := by
  unfold maxLen at hl
  have HR := Lib.hid hR
  clear hR
  generalize hn : l.length = n at hl ⊢
  have HN := Lib.hid hn
  clear hn
  go_enter Tryz.func96, Tryz.ntmps96
  go_wp2
  go_loop [8] (fun i => ∃ k : Nat, k ≤ n ∧ i = .int .i64 k ∧ ∀ j, j < k → (v == l.getD j 0) = false) (fun i => n - (intOf i).toNat)
  case atStart => exact ⟨0, Nat.zero_le _, rfl, fun j hj => absurd hj (by omega)⟩
  case round =>
    obtain ⟨k, hk, rfl, hno⟩ := hrel
    have HNO := Lib.hid hno
    clear hno
    by_cases hlt : k < n
    · have hkl : k < l.length := by rw [HN.out]; exact hlt
      obtain ⟨b, o, rfl, hbl, hc⟩ := HR.out.at_ (by rw [ints_length]; omega)
      have hcell := hc k _ (ints_at hkl)
      clear hc hkl
      generalize hx : l.getD k 0 = x at hcell
      have HX := Lib.hid hx
      clear hx
      cases hpx : (v == x)
      · go_wp2
        go_round
        case rel =>
          refine ⟨k + 1, by omega, by go_num, fun j hj => ?_⟩
          by_cases hjk : j = k
          · subst hjk; rw [HX.out]; exact hpx
          · exact HNO.out j (by omega)
        case measure => simp [intOf]; omega
      · go_wp2
        go_ret
        exact ⟨ret_int (by rw [firstV_hit 0 l 0 k (by rw [HN.out]; exact hlt) HNO.out (by rw [HX.out]; exact hpx)]; simp), rfl⟩
    · go_wp2
      go_ret
      refine ⟨ret_int ?_, rfl⟩
      rw [firstV_none l 0 (fun x hx => ?_)]
      obtain ⟨j, hj, rfl⟩ := List.getElem_of_mem hx
      have := HNO.out j (by have := HN.out; omega)
      simpa [List.getD, hj] using this

theorem any_contains (l : List Int) (v : Int) : l.any (fun x => v == x) = l.contains v := by
  induction l with
  | nil => rfl
  | cons x r ih => simp only [List.any_cons, List.contains_cons, ih]

set_option maxHeartbeats 400000 in
theorem HasI_any (A : Option Addr) (c : Nat) (l : List Int) (v : Int) (w : World) (hl : l.length ≤ maxLen) (hR : Rd w A (ints l)) :
    Calls Tryz.prog 60 #[.slice A l.length c, .int .i64 v] w fun e w' => e = .returned (.bool (l.contains v)) ∧ w = w' := by
  have HI := Lib.hid (IndexI_any A c l v w hl hR)
  have HL := Lib.hid (firstV_lo (p := fun x => v == x) l 0)
  clear hR hl
  generalize l.length = n at *
  by_cases h : 0 ≤ firstV (fun x => v == x) l 0
  all_goals
    go_enter Tryz.func60, Tryz.ntmps60
    go_wp2_with (first | (refine HI.out.mono ?_; rintro e w1 ⟨rfl, rfl⟩))
    go_ret
    refine ⟨ret_bool ?_, rfl⟩
    have e := HL.out.2
    rw [any_contains] at e
    first | exact (e.1 h).symm | (rw [Bool.eq_iff_iff, decide_eq_true_iff]; exact e) | (rw [eq_comm, Bool.eq_false_iff]; exact fun h' => h (e.2 h'))

end Go.Proofs.YtieglgahfeecbaaGreatDoor

namespace Go.Proofs.YtieglgahfeecbaaGreatDoor
open Go.RowKit Go.Sort

/-- Is a call the only one that puts its value? -/
def soleB (l : List Kall) (x : Kall) : Bool := x.put && decide ((putsS l x.value).length = 1)
def valuesS (l : List Kall) : List Int := (l.filter (soleB l)).map Kall.value

theorem ints_len_filter {α : Type} (l : List α) (p : α → Bool) (k : Nat) : ((l.take k).filter p).length ≤ k := by
  have := List.length_filter_le p (l.take k)
  simp at this
  omega

theorem filter_take_yes {α : Type} {l : List α} {p : α → Bool} {d : α} {k : Nat} (h : k < l.length) (hp : p (l.getD k d) = true) : (l.take (k + 1)).filter p = (l.take k).filter p ++ [l.getD k d] := by
  rw [take_succ_getD l d k h, List.filter_append]
  simp only [List.filter_cons, hp, if_true, List.filter_nil]
theorem filter_take_no {α : Type} {l : List α} {p : α → Bool} {d : α} {k : Nat} (h : k < l.length) (hp : p (l.getD k d) = false) : (l.take (k + 1)).filter p = (l.take k).filter p := by
  rw [take_succ_getD l d k h, List.filter_append]
  simp only [List.filter_cons, hp, Bool.false_eq_true, if_false, List.filter_nil, List.append_nil]

theorem calls_len (ns : List Nte) : (callsS ns).length ≤ ns.length := (runC_len ns ns.length).1

set_option maxHeartbeats 4000000 in
set_option maxRecDepth 100000 in
theorem Values_any (A : Option Addr) (c : Nat) (ns : List Nte) (w : World) (hl : ns.length ≤ 1048576) (hok : ThreadsOk ns) (hR : Rd w A (rows ns)) :
    Calls Tryz.prog 29 #[.slice A ns.length c] w (RetIntsO (valuesS (callsS ns)) w) := by
  have HC := Lib.hid (calls_any A c ns w hl hok hR)
  have hcl := calls_len ns
  clear hok hR
  generalize ns.length = nn at *
  generalize callsS ns = l at *
  have HP := Lib.hid (fun A1 c1 v W h => puts_any A1 c1 l v W (by omega) h)
  generalize hn : l.length = n at *
  have HN := Lib.hid hn
  clear hn
  go_enter Tryz.func29, Tryz.ntmps29
  go_wp2_with fail
  refine HC.out.mono ?_
  rintro e w1 ⟨L, cl, rfl, hrd, _, _, hb1⟩
  rw [HN.out]
  have HRD := Lib.hid hrd
  have HB1 := Lib.hid hb1
  clear hrd hb1
  go_wp2
  go_loopg [4, 11] n (fun g v i wr => ∃ (k : Nat) (V : Option Addr) (cv : Nat), k ≤ n ∧ g = n - k ∧ i = .int .i64 k ∧ v = .slice V ((l.take k).filter (soleB l)).length cv ∧ wr.ownsRow w1.heap.size 3 1 (.slice V ((l.take k).filter (soleB l)).length cv) ((l.take k).filter (soleB l)).length (ints (((l.take k).filter (soleB l)).map Kall.value)) ∧ Below w1.heap.size w1 wr)
  case atStart => exact ⟨0, none, 0, Nat.zero_le _, rfl, rfl, rfl, own_nil _ _ _ _, Below.refl _ _⟩
  case round =>
    obtain ⟨k, V, cv, hk, hg, rfl, rfl, hown, hb⟩ := hrel
    have HG := Lib.hid hg
    have HB := Lib.hid hb
    have HOWN := Lib.hid hown
    have hfl := ints_len_filter l (soleB l) k
    clear hg hb hown
    by_cases hlt : k < n
    · have hkl : k < l.length := by rw [HN.out]; exact hlt
      obtain ⟨b, o, rfl, hbl, hc⟩ := HRD.out.at_ (by rw [rows_length]; exact Nat.mul_pos (by omega) (by decide))
      have hcr : ∀ j v, (rows l)[j]? = some v → wr.cell? ⟨b, o + j, none⟩ = some v := fun j v hj => by
        rw [HB.out.cell (p := ⟨b, o + j, none⟩) hbl]; exact hc j v hj
      generalize hx : l.getD k Kall.none = x
      obtain ⟨c0, c1, c2, c3, c4, c5⟩ := kall_cells hcr hkl hx
      have HX := Lib.hid hx
      have HKL := Lib.hid hkl
      have HSO : RowKit.Hid (soleB l x = (x.put && decide ((putsS l x.value).length = 1))) := Lib.hid rfl
      have HYES := Lib.hid (fun h => filter_take_yes (p := soleB l) (d := Kall.none) hkl h)
      have HNOO := Lib.hid (fun h => filter_take_no (p := soleB l) (d := Kall.none) hkl h)
      rw [hx] at HYES HNOO
      clear hc hcr hx hkl
      generalize (l.take k).filter (soleB l) = fl at *
      generalize hfn : fl.length = fn at *
      have HFN := Lib.hid hfn
      clear hfn
      have q1 : (0 : Int) ≤ (k : Int) := by omega
      have q2 : (k : Int) < (n : Int) := by omega
      cases hp : x.put
      · rw [hp] at c3
        go_wp2
        go_roundg (n - (k + 1))
        case measure => rw [HG.out]; omega
        case rel =>
          have hso : soleB l x = false := by rw [HSO.out, hp]; rfl
          refine ⟨k + 1, V, cv, by omega, rfl, by go_num, ?_, ?_, HB.out.alloc HB.out.size _⟩
          · rw [HNOO.out hso, HFN.out]
          · rw [HNOO.out hso, HFN.out]; exact HOWN.out.alloc _
      · rw [hp] at c3
        have HPU := Lib.hid (fun W h => HP.out (some ⟨b, o, none⟩) cl x.value W h)
        go_wp2_with fail
        refine (HPU.out _ ((HRD.out.below HB.out).alloc _)).mono ?_
        rintro e w2 ⟨P2, c2', rfl, _, _, _, hb2⟩
        have hbx : w2.cell? ⟨wr.heap.size, 4, none⟩ = some (.int .i64 x.value) := by
          rw [hb2.cell (p := ⟨wr.heap.size, 4, none⟩) (by simp), World.cell?_alloc_at (hn := rfl)]; rfl
        have HB2 := Lib.hid ((HB.out.alloc HB.out.size (kbox ⟨x.beg, x.fin, x.opn, true, x.value, x.code⟩)).trans (hb2.mono (by have := HB.out.size; simp; omega)))
        have HO2 := Lib.hid (own_below (HOWN.out.alloc _) hb2)
        clear hb2
        by_cases h1 : (putsS l x.value).length = 1
        · rw [h1]
          have hso : soleB l x = true := by rw [HSO.out, hp, h1]; rfl
          have HE := Lib.hid (HYES.out hso)
          clear h1 hso
          go_wp2_with (at_builtin; refine wpList_app rfl (.tmp 25) (.tmp 28) 22 3 rfl w1.heap.size (.int .i64 0) 1 8 Tryz.underlying22 int_info rfl (by decide) V fn cv (ints (fl.map Kall.value)) rfl (HO2.out.alloc _) (some ⟨w2.heap.size, 0, none⟩) 1 1 (ints [x.value]) rfl (by simp) rfl (blk_new rfl).rd (ints_one _) (fn + 1) rfl (ints (fl.map Kall.value ++ [x.value])) (by simp [ints]) (by unfold maxLen; omega) (by omega) (Nat.le_trans HB2.out.size (by simp)) ?_; intro V3 cv3 w3 hown3 hg3 hb3)
          go_roundg (n - (k + 1))
          case measure => rw [HG.out]; omega
          case rel =>
            refine ⟨k + 1, V3, cv3, by omega, rfl, by go_num, ?_, ?_, (HB2.out.alloc HB2.out.size _).trans hb3⟩
            · rw [HE.out]; simp [HFN.out]
            · rw [HE.out]
              simp only [List.map_append, List.map_cons, List.map_nil, List.length_append, List.length_cons, List.length_nil, HFN.out]
              exact hown3
        · have t1 : (((putsS l x.value).length : Int) == 1) = false := by simp; omega
          have hso : soleB l x = false := by rw [HSO.out, hp]; simpa using h1
          have HE := Lib.hid (HNOO.out hso)
          clear h1 hso
          generalize (putsS l x.value).length = pn at *
          go_wp2
          go_roundg (n - (k + 1))
          case measure => rw [HG.out]; omega
          case rel =>
            refine ⟨k + 1, V, cv, by omega, rfl, by go_num, ?_, ?_, HB2.out⟩
            · rw [HE.out, HFN.out]
            · rw [HE.out, HFN.out]; exact HO2.out
    · obtain rfl : k = n := by omega
      rw [List.take_of_length_le (by rw [HN.out]; omega)] at HOWN ⊢
      have HV := Lib.hid (show (valuesS l).length = (l.filter (soleB l)).length by simp [valuesS])
      generalize hfn : (l.filter (soleB l)).length = fn at *
      go_wp2
      go_ret
      refine ⟨V, cv, ?_, ?_, HB1.out.trans (HB.out.mono HB1.out.size)⟩
      · rw [HV.out]; rfl
      · rw [HV.out]; exact own_lower HOWN.out HB1.out.size

end Go.Proofs.YtieglgahfeecbaaGreatDoor

namespace Go.Proofs.YtieglgahfeecbaaGreatDoor
open Go.RowKit Go.Sort

end Go.Proofs.YtieglgahfeecbaaGreatDoor
