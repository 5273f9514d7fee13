/- Layer 4: how faults are made, handed to the document's text, and sought there by name; the example: walked. -/
import Derived.Test.YtiioedgdhkndgaaDoorE7
namespace Go.Proofs.YtiioedgdhkndgaaDoor
open Go.RowKit Go.Sort Go.Extern.Stop Go.Stop Go.Extern
attribute [local go_sem ↓] Go.wp_at_zero Go.wp_at_succ

set_option maxHeartbeats 1000000 in
theorem In_nil (s : ByteArray) (p : Int) (w : World) :
    Calls Tryd.prog 15 #[.string s, .int .i64 p, .nilIface] w fun e w' => e = .returned .nilIface ∧ w = w' := by
  go_enter Tryd.func15, Tryd.ntmps15
  go_wp2
  go_ret
  exact ⟨rfl, rfl⟩

set_option maxHeartbeats 1000000 in
theorem made_nil (e : Int) (A : Option Addr) (c : Nat) (w : World) :
    Calls Tryd.prog 14 #[.slice A 0 c, .int .i64 e] w fun er w' => er = .returned .nilIface ∧ w = w' := by
  go_enter Tryd.func14, Tryd.ntmps14
  go_wp2
  go_ret
  exact ⟨rfl, rfl⟩

/-- What is made so far of what stands behind. -/
def MadeV (B : Nat) (w : World) (y : Value) (l : List (ByteArray × Int)) (e : Int) : Prop := if e = 0 then y = .nilIface else Chain B w y l e

theorem MadeV.below {B : Nat} {w w' : World} {y : Value} {l : List (ByteArray × Int)} {e : Int} (h : MadeV B w y l e) (hb : Below w.heap.size w w') : MadeV B w' y l e := by
  unfold MadeV at h ⊢
  split
  · rename_i he; rw [if_pos he] at h; exact h
  · rename_i he; rw [if_neg he] at h; exact h.below hb

theorem At_made (s : ByteArray) (p e : Int) (w : World) :
    Calls Tryd.prog 21 #[.string s, .int .i64 p, .int .i64 e] w fun er w' => ∃ v, er = .returned v ∧ MadeV w.heap.size w' v [(s, p)] e ∧ Below w.heap.size w w' := by
  by_cases he : e = 0
  · subst he
    exact (At_none s p w).mono fun er w' ⟨h1, h2⟩ => ⟨_, h1, by unfold MadeV; rw [if_pos rfl], by rw [h2]; exact Below.refl _ _⟩
  · exact (At_any s p e w he).mono fun er w' ⟨v, h1, h2, h3⟩ => ⟨v, h1, by unfold MadeV; rw [if_neg he]; exact h2, h3⟩
theorem In_made (B : Nat) (s : ByteArray) (p : Int) (y : Value) (r : List (ByteArray × Int)) (e : Int) (w : World) (hB : B ≤ w.heap.size) (h : MadeV B w y r e) :
    Calls Tryd.prog 15 #[.string s, .int .i64 p, y] w fun er w' => ∃ v, er = .returned v ∧ MadeV B w' v ((s, p) :: r) e ∧ Below w.heap.size w w' := by
  by_cases he : e = 0
  · subst he
    have hy : y = .nilIface := by unfold MadeV at h; rw [if_pos rfl] at h; exact h
    subst hy
    exact (In_nil s p w).mono fun er w' ⟨h1, h2⟩ => ⟨_, h1, by unfold MadeV; rw [if_pos rfl], by rw [← h2]; exact Below.refl _ _⟩
  · have hc : Chain B w y r e := by unfold MadeV at h; rw [if_neg he] at h; exact h
    exact (In_any B s p y r e w hB hc).mono fun er w' ⟨v, h1, h2, h3⟩ => ⟨v, h1, by unfold MadeV; rw [if_neg he]; exact h2, h3⟩

theorem int_eq {a b : Int} (h : a = b) : Value.int .i64 a = Value.int .i64 b := by rw [h]

set_option maxHeartbeats 16000000 in
set_option maxRecDepth 100000 in
theorem made_any (A : Option Addr) (c : Nat) (l : List (ByteArray × Int)) (e : Int) (w : World) (hR : Rd w A (rows l)) (hne : l ≠ []) (hlm : l.length ≤ maxLen) :
    Calls Tryd.prog 14 #[.slice A l.length c, .int .i64 e] w fun er w' => ∃ y, er = .returned y ∧ MadeV w.heap.size w' y l e ∧ Below w.heap.size w w' := by
  unfold maxLen at hlm
  have hpos : 0 < l.length := List.length_pos_iff.2 hne
  obtain ⟨b, o, rfl, hbl, hc⟩ := hR.at_ (by rw [rows_length]; exact Nat.mul_pos hpos (by decide))
  have HCC := Lib.hid hc
  obtain ⟨m0, hm0⟩ : ∃ m0, l.length = m0 + 1 := ⟨l.length - 1, by omega⟩
  rw [hm0] at hlm hpos ⊢
  have HN := Lib.hid hm0
  clear hR hne hm0 hpos
  have b0 : ((m0 : Int) + 1 == 0) = false := by simp; omega
  have w1 : IntKind.i64.wrap ((m0 : Int) + 1 - 1) = (m0 : Int) := by rw [Int.add_sub_cancel]; exact IntWalk.i64_in _ (by omega)
  have w1' : IntKind.i64.wrap (m0 : Int) = (m0 : Int) := IntWalk.i64_in _ (by omega)
  have w2 : IntKind.i64.wrap ((m0 : Int) + 1 - 2) = (m0 : Int) + 1 - 2 := IntWalk.i64_in _ (by omega)
  have p1 : (0 : Int) ≤ (m0 : Int) := by omega
  have p2 : (m0 : Int) < (m0 : Int) + 1 := by omega
  obtain ⟨c0, c1⟩ := one_cells hc (k := m0) (by rw [HN.out]; omega) rfl
  generalize hx : l.getD m0 (⟨#[]⟩, 0) = x at *
  have HX := Lib.hid (show l.drop m0 = [x] by
    have h1 : m0 < l.length := by rw [HN.out]; omega
    rw [List.drop_eq_getElem_cons h1, List.drop_of_length_le (by rw [HN.out]; omega), ← hx]
    simp [List.getD, h1])
  obtain ⟨xs, xp⟩ := x
  simp only at c0 c1
  clear hx hc
  have HA := Lib.hid (fun W => At_made xs xp e W)
  have HI := Lib.hid (fun (s : ByteArray) (p : Int) (y : Value) (r : List (ByteArray × Int)) W hB h => In_made w.heap.size s p y r e W hB h)
  go_enter Tryd.func14, Tryd.ntmps14
  go_upto_region 4 with (fail)
  go_region_held3 (fun w' => w'.cell? ⟨b, o + m0 * 2, none⟩ = some (.string xs) ∧ w'.cell? ⟨b, o + m0 * 2 + 1, none⟩ = some (.int .i64 xp)) (first | go_keep | (simp only [hk1]; go_keep))
    (first | (go_at_call 21; refine (HA.out w.drew).mono ?_; rintro er w2 ⟨y, rfl, hy, hb2⟩; have hB2 : Below w.heap.size w w2 := ⟨hb2.os, hb2.tape, hb2.output, hb2.size, hb2.block⟩; have hk1 := fun o => hB2.cell (p := ⟨b, o, none⟩) hbl))
  have HY := Lib.hid (show MadeV w.heap.size w2 y (l.drop m0) e by rw [HX.out]; exact hy)
  have HB2 := Lib.hid hB2
  clear hk1 hB2 hb2 hy c0 c1
  go_wp2
  go_loopg [6, 7] m0 (fun g yv i wr => ∃ (m : Nat) (y : Value), g = m ∧ m < m0 + 1 ∧ i = .int .i64 ((m : Int) - 1) ∧ yv = y ∧ MadeV w.heap.size wr y (l.drop m) e ∧ Below w.heap.size w wr)
  case atStart => exact ⟨m0, y, rfl, by omega, int_eq (by omega), rfl, HY.out, HB2.out⟩
  case round =>
    obtain ⟨m, y, hgm, hmn, rfl, rfl, hy, hb⟩ := hrel
    have HG := Lib.hid hgm
    clear hgm
    have HYR := Lib.hid hy
    have HB := Lib.hid hb
    clear hy
    by_cases h0 : m = 0
    · subst h0
      rw [show ((0 : Nat) : Int) - 1 = -1 from rfl]
      clear hb
      go_wp2
      go_ret
      exact ⟨_, rfl, HYR.out, HB.out⟩
    · obtain ⟨m, rfl⟩ : ∃ k, m = k + 1 := ⟨m - 1, by omega⟩
      rw [show ((m + 1 : Nat) : Int) - 1 = (m : Int) by omega]
      have hml : m < l.length := by rw [HN.out]; omega
      have hcr : ∀ j v, (rows l)[j]? = some v → wr.cell? ⟨b, o + j, none⟩ = some v := fun j v hj => by
        rw [hb.cell (p := ⟨b, o + j, none⟩) hbl]; exact HCC.out j v hj
      obtain ⟨c0, c1⟩ := one_cells hcr hml rfl
      have HD := Lib.hid (show l.drop m = l.getD m (⟨#[]⟩, 0) :: l.drop (m + 1) by
        rw [List.drop_eq_getElem_cons hml]; simp [List.getD, hml])
      generalize l.getD m (⟨#[]⟩, 0) = x at *
      obtain ⟨xs, xp⟩ := x
      simp only at c0 c1
      have q1 : (0 : Int) ≤ (m : Int) := by omega
      have q2 : (m : Int) < (m0 : Int) + 1 := by omega
      have hblr : b < wr.heap.size := Nat.lt_of_lt_of_le hbl HB.out.size
      have HYD := Lib.hid (HYR.out.below (Below.drewN' (Below.refl _ _) 1))
      clear hcr hml hb h0
      go_upto_region 8 with (fail)
      go_region_held3 (fun w' => w'.cell? ⟨b, o + m * 2, none⟩ = some (.string xs) ∧ w'.cell? ⟨b, o + m * 2 + 1, none⟩ = some (.int .i64 xp)) (first | go_keep | (simp only [hk1]; go_keep))
        (first | (go_at_call 15; refine (HI.out xs xp _ (l.drop (m + 1)) wr.drew HB.out.size HYD.out).mono ?_; rintro er w3 ⟨y3, rfl, hy3, hb3⟩; have hB3 : Below wr.heap.size wr w3 := ⟨hb3.os, hb3.tape, hb3.output, hb3.size, hb3.block⟩; have hk1 := fun o => hB3.cell (p := ⟨b, o, none⟩) hblr))
      have HY3 := Lib.hid (show MadeV w.heap.size w3 y3 (l.drop m) e by rw [HD.out]; exact hy3)
      have HB3 := Lib.hid (HB.out.trans (hB3.mono HB.out.size))
      clear hk1 hB3 hb3 hy3 c0 c1
      go_wp2
      go_roundg m
      case measure => rw [HG.out]; omega
      case rel => exact ⟨m, y3, rfl, by omega, rfl, rfl, HY3.out, HB3.out⟩

end Go.Proofs.YtiioedgdhkndgaaDoor
