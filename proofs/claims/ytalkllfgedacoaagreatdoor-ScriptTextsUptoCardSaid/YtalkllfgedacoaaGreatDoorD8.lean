/- Rows of integers held against each other, element by element. -/
import Derived.Test.YtalkllfgedacoaaGreatDoorD1
import Derived.Test.YtalkllfgedacoaaGreatDoorD3
namespace Go.Proofs.YtalkllfgedacoaaGreatDoor
open Go.RowKit Go.Sort

def words (l : List Int) : List Value := l.map (Value.int .u64)
theorem words_at {l : List Int} {k : Nat} (h : k < l.length) : (words l)[k]? = some (.int .u64 (l.getD k 0)) := by
  simp [words, List.getD, List.getElem?_eq_getElem h]
theorem words_length (l : List Int) : (words l).length = l.length := by simp [words]

theorem eq_of_take {α : Type} [BEq α] [LawfulBEq α] (l r : List α) (n : Nat) (hl : l.length = n) (hr : r.length = n) (h : l.take n = r.take n) : (l == r) = true := by
  rw [List.take_of_length_le (by omega), List.take_of_length_le (by omega)] at h
  simp [h]
theorem take_snoc_eq {α : Type} (l r : List α) (d : α) (k : Nat) (hl : k < l.length) (hr : k < r.length) (h : l.take k = r.take k) (he : l.getD k d = r.getD k d) : l.take (k + 1) = r.take (k + 1) := by
  rw [List.take_succ_eq_append_getElem hl, List.take_succ_eq_append_getElem hr, h]
  simp [List.getD, hl, hr] at he
  rw [he]
theorem ne_of_getD {α : Type} [BEq α] [LawfulBEq α] (l r : List α) (d : α) (k : Nat) (he : ¬ l.getD k d = r.getD k d) : (l == r) = false := by
  rw [beq_eq_false_iff_ne]; rintro rfl; exact he rfl
theorem ne_of_length {α : Type} [BEq α] [LawfulBEq α] (l r : List α) (he : ¬ l.length = r.length) : (l == r) = false := by
  rw [beq_eq_false_iff_ne]; rintro rfl; exact he rfl

end Go.Proofs.YtalkllfgedacoaaGreatDoor

namespace Go.Proofs.YtalkllfgedacoaaGreatDoor
open Go.RowKit Go.Sort

theorem neq_cse (x y : Cse) (w : World) : (binOp .neq 110 (cseV x) (cseV y)).run Tryz.prog w = .ok (.bool (!decide (x = y))) w := by
  obtain ⟨x0, x1, x2⟩ := x
  obtain ⟨y0, y1, y2⟩ := y
  unfold cseV
  simp [go_sem, binOp, Op.equal, Op.maxDepth]
  by_cases h0 : x0 = y0 <;> by_cases h1 : x1 = y1 <;> by_cases h2 : x2 = y2 <;> simp [h0, h1, h2]

theorem take_eq_step {l r : List Cse} {k : Nat} (hl : k < l.length) (hr : k < r.length) (h : l.take k = r.take k) : (l.take (k + 1) = r.take (k + 1)) ↔ l.getD k Cse.none = r.getD k Cse.none := by
  have e1 : l.take (k + 1) = l.take k ++ [l[k]] := List.take_succ_eq_append_getElem hl
  have e2 : r.take (k + 1) = r.take k ++ [r[k]] := List.take_succ_eq_append_getElem hr
  have g1 : l.getD k Cse.none = l[k] := by rw [List.getD, List.getElem?_eq_getElem hl]; rfl
  have g2 : r.getD k Cse.none = r[k] := by rw [List.getD, List.getElem?_eq_getElem hr]; rfl
  rw [e1, e2, g1, g2, h]
  constructor
  · intro e
    have := List.append_cancel_left e
    simpa using this
  · intro e
    rw [e]

set_option maxHeartbeats 8000000 in
set_option maxRecDepth 100000 in
theorem CasesEq_any (A B : Option Addr) (n m c d : Nat) (l r : List Cse) (w : World) (hl : l.length = n) (hr : r.length = m) (hn : n ≤ 4611686018427387904) (hm : m ≤ 4611686018427387904) (hA : Rd w A (rows l)) (hB : Rd w B (rows r)) :
    Calls Tryz.prog 93 #[.slice A n c, .slice B m d] w fun e w' => e = .returned (.bool (l == r)) ∧ Below w.heap.size w w' := by
  have HA := Lib.hid hA
  have HB := Lib.hid hB
  have HL := Lib.hid hl
  have HR := Lib.hid hr
  clear hA hB hl hr
  by_cases hnm : n = m
  · subst hnm
    go_enter Tryz.func93, Tryz.ntmps93
    go_wp2
    go_loopw [13] (fun i wr => ∃ k : Nat, k ≤ n ∧ i = .int .i64 k ∧ l.take k = r.take k ∧ Below w.heap.size w wr) (fun i _ => n - (intOf i).toNat)
    case atStart => exact ⟨0, Nat.zero_le _, rfl, rfl, Below.refl _ _⟩
    case round =>
      obtain ⟨k, hk, rfl, htk, hb⟩ := hrel
      have HBW := Lib.hid hb
      have HTK := Lib.hid htk
      clear hb htk
      by_cases hlt : k < n
      · have hkl : k < l.length := by rw [HL.out]; exact hlt
        have hkr : k < r.length := by rw [HR.out]; exact hlt
        obtain ⟨a1, o1, rfl, hl1, hc1⟩ := HA.out.at_ (by rw [rows_length]; exact Nat.mul_pos (by omega) (by decide))
        obtain ⟨a2, o2, rfl, hl2, hc2⟩ := HB.out.at_ (by rw [rows_length]; exact Nat.mul_pos (by omega) (by decide))
        have hd1 : ∀ j v, (rows l)[j]? = some v → wr.cell? ⟨a1, o1 + j, none⟩ = some v := fun j v hj => by
          rw [HBW.out.cell (p := ⟨a1, o1 + j, none⟩) hl1]; exact hc1 j v hj
        have hd2 : ∀ j v, (rows r)[j]? = some v → wr.cell? ⟨a2, o2 + j, none⟩ = some v := fun j v hj => by
          rw [HBW.out.cell (p := ⟨a2, o2 + j, none⟩) hl2]; exact hc2 j v hj
        obtain ⟨x0, x1, x2⟩ := cse_cells hd1 hkl rfl
        obtain ⟨y0, y1, y2⟩ := cse_cells hd2 hkr rfl
        have HST := Lib.hid (take_eq_step hkl hkr HTK.out)
        generalize l.getD k Cse.none = x at *
        generalize r.getD k Cse.none = y at *
        have hne := neq_cse x y
        unfold cseV at hne
        clear hc1 hc2 hd1 hd2 hkl hkr
        have q1 : (0 : Int) ≤ (k : Int) := by omega
        have q2 : (k : Int) < (n : Int) := by omega
        by_cases hxy : x = y
        · have HXY := Lib.hid (HST.out.2 hxy)
          rw [decide_eq_true hxy] at hne
          clear hxy
          go_wp2
          go_quiet (fail)
          go_wp2
          exact ⟨⟨k + 1, by omega, by go_num, HXY.out, Below.drewN' HBW.out nq⟩, by simp [intOf]; omega⟩
        · have HXY : RowKit.Hid (¬ l = r) := Lib.hid (fun e => hxy (HST.out.1 (by rw [e])))
          rw [decide_eq_false hxy] at hne
          clear hxy
          go_wp2
          go_quiet (fail)
          go_wp2
          go_ret
          exact ⟨by rw [show (l == r) = false from beq_eq_false_iff_ne.2 HXY.out]; rfl, Below.drewN' HBW.out nq⟩
      · obtain rfl : k = n := by omega
        have HE : RowKit.Hid (l = r) := Lib.hid (by
          have := HTK.out
          rwa [List.take_of_length_le (by rw [HL.out]; exact Nat.le_refl _), List.take_of_length_le (by rw [HR.out]; exact Nat.le_refl _)] at this)
        go_wp2
        go_ret
        exact ⟨by rw [HE.out]; simp, HBW.out⟩
  · have HE : RowKit.Hid (¬ l = r) := Lib.hid (fun e => hnm (by rw [← HL.out, ← HR.out, e]))
    have q0 : ((n : Int) == (m : Int)) = false := by rw [beq_eq_false_iff_ne]; omega
    have q1 : ((n : Int) != (m : Int)) = true := by rw [bne_iff_ne]; omega
    go_enter Tryz.func93, Tryz.ntmps93
    go_wp2
    go_ret
    exact ⟨by rw [show (l == r) = false from beq_eq_false_iff_ne.2 HE.out]; rfl, Below.refl _ _⟩

set_option maxHeartbeats 8000000 in
set_option maxRecDepth 100000 in
theorem same24_any (p q : Reqr) (l r : List Cse) (w : World) (hn : p.n ≤ 4611686018427387904) (hm : q.n ≤ 4611686018427387904) (hp : ReqAt w p l) (hq : ReqAt w q r) :
    Calls Tryz.prog 52 #[reqV p, reqV q] w fun e w' => e = .returned (.bool (p.kind == q.kind && p.arg == q.arg && p.value == q.value && p.dflt == q.dflt && l == r)) ∧ Below w.heap.size w w' := by
  have HC := Lib.hid (fun W h1 h2 => CasesEq_any p.A q.A p.n q.n p.c q.c l r W hp.len hq.len hn hm h1 h2)
  have HP := Lib.hid hp.rd
  have HQ := Lib.hid hq.rd
  clear hp hq hn hm
  obtain ⟨k1, a1, v1, d1, A1, n1, c1⟩ := p
  obtain ⟨k2, a2, v2, d2, A2, n2, c2⟩ := q
  unfold reqV
  simp only at HC HP HQ ⊢
  generalize hL : (l == r) = L at *
  clear hL
  cases hk : (k1 == k2)
  case true =>
    cases ha : (a1 == a2)
    case true =>
      cases hv : (v1 == v2)
      case true =>
        cases hd : (d1 == d2)
        case true =>
          go_enter Tryz.func52, Tryz.ntmps52
          go_wp2_with (go_at_call 93; refine (HC.out _ ((HP.out.alloc _).alloc _) ((HQ.out.alloc _).alloc _)).mono ?_; rintro e w1 ⟨rfl, hb1⟩)
          go_ret
          exact ⟨by simp, (((Below.refl _ _).alloc (Nat.le_refl _) _).alloc (by simp) _).trans (hb1.mono (by simp; omega))⟩
        all_goals
          go_enter Tryz.func52, Tryz.ntmps52
          go_wp2
          go_ret
          exact ⟨by simp, ((Below.refl _ _).alloc (Nat.le_refl _) _).alloc (by simp) _⟩
      all_goals
        go_enter Tryz.func52, Tryz.ntmps52
        go_wp2
        go_ret
        exact ⟨by simp, ((Below.refl _ _).alloc (Nat.le_refl _) _).alloc (by simp) _⟩
    all_goals
      go_enter Tryz.func52, Tryz.ntmps52
      go_wp2
      go_ret
      exact ⟨by simp, ((Below.refl _ _).alloc (Nat.le_refl _) _).alloc (by simp) _⟩
  all_goals
    go_enter Tryz.func52, Tryz.ntmps52
    go_wp2
    go_ret
    exact ⟨by simp, ((Below.refl _ _).alloc (Nat.le_refl _) _).alloc (by simp) _⟩

end Go.Proofs.YtalkllfgedacoaaGreatDoor

namespace Go.Proofs.YtalkllfgedacoaaGreatDoor
open Go.RowKit Go.Sort

set_option maxHeartbeats 8000000 in
set_option maxRecDepth 100000 in
theorem CasesP_any (A B : Option Addr) (n m c d : Nat) (l r : List Cse) (w : World) (hl : l.length = n) (hr : r.length = m) (hn : n ≤ 4611686018427387904) (hm : m ≤ 4611686018427387904) (hA : Rd w A (rows l)) (hB : Rd w B (rows r)) :
    Calls Tryz.prog 94 #[.slice A n c, .slice B m d] w fun e w' => e = .returned (.bool (l == r)) ∧ Below w.heap.size w w' := by
  have HA := Lib.hid hA
  have HB := Lib.hid hB
  have HL := Lib.hid hl
  have HR := Lib.hid hr
  clear hA hB hl hr
  by_cases hnm : n = m
  · subst hnm
    go_enter Tryz.func94, Tryz.ntmps94
    go_wp2
    go_loopw [13] (fun i wr => ∃ k : Nat, k ≤ n ∧ i = .int .i64 k ∧ l.take k = r.take k ∧ Below w.heap.size w wr) (fun i _ => n - (intOf i).toNat)
    case atStart => exact ⟨0, Nat.zero_le _, rfl, rfl, Below.refl _ _⟩
    case round =>
      obtain ⟨k, hk, rfl, htk, hb⟩ := hrel
      have HBW := Lib.hid hb
      have HTK := Lib.hid htk
      clear hb htk
      by_cases hlt : k < n
      · have hkl : k < l.length := by rw [HL.out]; exact hlt
        have hkr : k < r.length := by rw [HR.out]; exact hlt
        obtain ⟨a1, o1, rfl, hl1, hc1⟩ := HA.out.at_ (by rw [rows_length]; exact Nat.mul_pos (by omega) (by decide))
        obtain ⟨a2, o2, rfl, hl2, hc2⟩ := HB.out.at_ (by rw [rows_length]; exact Nat.mul_pos (by omega) (by decide))
        have hd1 : ∀ j v, (rows l)[j]? = some v → wr.cell? ⟨a1, o1 + j, none⟩ = some v := fun j v hj => by
          rw [HBW.out.cell (p := ⟨a1, o1 + j, none⟩) hl1]; exact hc1 j v hj
        have hd2 : ∀ j v, (rows r)[j]? = some v → wr.cell? ⟨a2, o2 + j, none⟩ = some v := fun j v hj => by
          rw [HBW.out.cell (p := ⟨a2, o2 + j, none⟩) hl2]; exact hc2 j v hj
        obtain ⟨x0, x1, x2⟩ := cse_cells hd1 hkl rfl
        obtain ⟨y0, y1, y2⟩ := cse_cells hd2 hkr rfl
        have HST := Lib.hid (take_eq_step hkl hkr HTK.out)
        generalize l.getD k Cse.none = x at *
        generalize r.getD k Cse.none = y at *
        have hne := neq_cse x y
        unfold cseV at hne
        clear hc1 hc2 hd1 hd2 hkl hkr
        have q1 : (0 : Int) ≤ (k : Int) := by omega
        have q2 : (k : Int) < (n : Int) := by omega
        by_cases hxy : x = y
        · have HXY := Lib.hid (HST.out.2 hxy)
          rw [decide_eq_true hxy] at hne
          clear hxy
          go_wp2
          go_quiet (fail)
          go_wp2
          exact ⟨⟨k + 1, by omega, by go_num, HXY.out, Below.drewN' HBW.out nq⟩, by simp [intOf]; omega⟩
        · have HXY : RowKit.Hid (¬ l = r) := Lib.hid (fun e => hxy (HST.out.1 (by rw [e])))
          rw [decide_eq_false hxy] at hne
          clear hxy
          go_wp2
          go_quiet (fail)
          go_wp2
          go_ret
          exact ⟨by rw [show (l == r) = false from beq_eq_false_iff_ne.2 HXY.out]; rfl, Below.drewN' HBW.out nq⟩
      · obtain rfl : k = n := by omega
        have HE : RowKit.Hid (l = r) := Lib.hid (by
          have := HTK.out
          rwa [List.take_of_length_le (by rw [HL.out]; exact Nat.le_refl _), List.take_of_length_le (by rw [HR.out]; exact Nat.le_refl _)] at this)
        go_wp2
        go_ret
        exact ⟨by rw [HE.out]; simp, HBW.out⟩
  · have HE : RowKit.Hid (¬ l = r) := Lib.hid (fun e => hnm (by rw [← HL.out, ← HR.out, e]))
    have q0 : ((n : Int) == (m : Int)) = false := by rw [beq_eq_false_iff_ne]; omega
    have q1 : ((n : Int) != (m : Int)) = true := by rw [bne_iff_ne]; omega
    go_enter Tryz.func94, Tryz.ntmps94
    go_wp2
    go_ret
    exact ⟨by rw [show (l == r) = false from beq_eq_false_iff_ne.2 HE.out]; rfl, Below.refl _ _⟩

set_option maxHeartbeats 8000000 in
set_option maxRecDepth 100000 in
theorem reqP_any (p q : Reqr) (l r : List Cse) (w : World) (hn : p.n ≤ 4611686018427387904) (hm : q.n ≤ 4611686018427387904) (hp : ReqAt w p l) (hq : ReqAt w q r) :
    Calls Tryz.prog 54 #[reqV p, reqV q] w fun e w' => e = .returned (.bool (p.kind == q.kind && p.arg == q.arg && p.value == q.value && p.dflt == q.dflt && l == r)) ∧ Below w.heap.size w w' := by
  have HC := Lib.hid (fun W h1 h2 => CasesP_any p.A q.A p.n q.n p.c q.c l r W hp.len hq.len hn hm h1 h2)
  have HP := Lib.hid hp.rd
  have HQ := Lib.hid hq.rd
  clear hp hq hn hm
  obtain ⟨k1, a1, v1, d1, A1, n1, c1⟩ := p
  obtain ⟨k2, a2, v2, d2, A2, n2, c2⟩ := q
  unfold reqV
  simp only at HC HP HQ ⊢
  generalize hL : (l == r) = L at *
  clear hL
  cases hk : (k1 == k2)
  case true =>
    cases ha : (a1 == a2)
    case true =>
      cases hv : (v1 == v2)
      case true =>
        cases hd : (d1 == d2)
        case true =>
          go_enter Tryz.func54, Tryz.ntmps54
          go_wp2_with (go_at_call 94; refine (HC.out _ ((HP.out.alloc _).alloc _) ((HQ.out.alloc _).alloc _)).mono ?_; rintro e w1 ⟨rfl, hb1⟩)
          go_ret
          exact ⟨by simp, (((Below.refl _ _).alloc (Nat.le_refl _) _).alloc (by simp) _).trans (hb1.mono (by simp; omega))⟩
        all_goals
          go_enter Tryz.func54, Tryz.ntmps54
          go_wp2
          go_ret
          exact ⟨by simp, ((Below.refl _ _).alloc (Nat.le_refl _) _).alloc (by simp) _⟩
      all_goals
        go_enter Tryz.func54, Tryz.ntmps54
        go_wp2
        go_ret
        exact ⟨by simp, ((Below.refl _ _).alloc (Nat.le_refl _) _).alloc (by simp) _⟩
    all_goals
      go_enter Tryz.func54, Tryz.ntmps54
      go_wp2
      go_ret
      exact ⟨by simp, ((Below.refl _ _).alloc (Nat.le_refl _) _).alloc (by simp) _⟩
  all_goals
    go_enter Tryz.func54, Tryz.ntmps54
    go_wp2
    go_ret
    exact ⟨by simp, ((Below.refl _ _).alloc (Nat.le_refl _) _).alloc (by simp) _⟩

end Go.Proofs.YtalkllfgedacoaaGreatDoor

namespace Go.Proofs.YtalkllfgedacoaaGreatDoor
open Go.RowKit Go.Sort

set_option maxHeartbeats 1000000 in
set_option maxRecDepth 100000 in
theorem IntsEq_any (A B : Option Addr) (c d : Nat) (l r : List Int) (w : World) (hl : l.length ≤ maxLen) (hr : r.length ≤ maxLen) (hA : Rd w A (ints l)) (hB : Rd w B (ints r)) :
    Calls Tryz.prog 53 #[.slice A l.length c, .slice B r.length d] w fun e w' => e = .returned (.bool (l == r)) ∧ Below w.heap.size w w' := by
  unfold maxLen at hl hr
  have HA := Lib.hid hA
  have HB := Lib.hid hB
  clear hA hB
  generalize hn : l.length = n at hl ⊢
  generalize hm : r.length = m at hr ⊢
  have HN := Lib.hid hn
  have HM := Lib.hid hm
  clear hn hm
  by_cases hnm : n = m
  · subst hnm
    go_enter Tryz.func53, Tryz.ntmps53
    go_wp2
    go_loopw [13] (fun i wr => ∃ k : Nat, k ≤ n ∧ i = .int .i64 k ∧ Below w.heap.size w wr ∧ l.take k = r.take k) (fun i _ => n - (intOf i).toNat)
    case atStart => exact ⟨0, Nat.zero_le _, rfl, Below.refl _ _, by simp⟩
    case round =>
      obtain ⟨k, hk, rfl, hb, ht⟩ := hrel
      have HBW := Lib.hid hb
      have HT := Lib.hid ht
      clear hb ht
      by_cases hlt : k < n
      · obtain ⟨a1, o1, rfl, hl1, hc1⟩ := HA.out.at_ (by rw [ints_length, HN.out]; omega)
        obtain ⟨a2, o2, rfl, hl2, hc2⟩ := HB.out.at_ (by rw [ints_length, HM.out]; omega)
        have x1 : wr.cell? ⟨a1, o1 + k, none⟩ = some (.int .i64 (l.getD k 0)) := by
          rw [HBW.out.cell (p := ⟨a1, o1 + k, none⟩) hl1]; exact hc1 k _ (ints_at (by rw [HN.out]; exact hlt))
        have x2 : wr.cell? ⟨a2, o2 + k, none⟩ = some (.int .i64 (r.getD k 0)) := by
          rw [HBW.out.cell (p := ⟨a2, o2 + k, none⟩) hl2]; exact hc2 k _ (ints_at (by rw [HM.out]; exact hlt))
        clear hc1 hc2
        have q1 : (0 : Int) ≤ (k : Int) := by omega
        have q2 : (k : Int) < (n : Int) := by omega
        generalize hx : l.getD k 0 = x at x1
        generalize hy : r.getD k 0 = y at x2
        have HX := Lib.hid hx
        have HY := Lib.hid hy
        clear hx hy
        by_cases hxy : x = y
        · subst hxy
          go_wp2
          go_quiet (fail)
          go_wp2
          refine ⟨⟨k + 1, by omega, by go_num, Below.drewN' HBW.out nq, ?_⟩, by simp [intOf]; omega⟩
          exact take_snoc_eq l r 0 k (by rw [HN.out]; exact hlt) (by rw [HM.out]; exact hlt) HT.out (by rw [HX.out, HY.out])
        · have hne : (x != y) = true := by simp [hxy]
          have HXY := Lib.hid hxy
          clear hxy
          go_wp2
          go_quiet (fail)
          go_wp2
          go_ret
          exact ⟨ret_bool (ne_of_getD l r 0 k (by rw [HX.out, HY.out]; exact HXY.out)).symm, Below.drewN' HBW.out nq⟩
      · go_wp2
        go_ret
        obtain rfl : k = n := by omega
        exact ⟨ret_bool (eq_of_take l r k HN.out HM.out HT.out).symm, HBW.out⟩
  · have h1 : ((n : Int) != (m : Int)) = true := by rw [bne_iff_ne]; omega
    have HNM := Lib.hid hnm
    clear hnm
    go_enter Tryz.func53, Tryz.ntmps53
    go_wp2
    go_ret
    exact ⟨ret_bool (ne_of_length l r (by rw [HN.out, HM.out]; exact HNM.out)).symm, Below.refl _ _⟩

end Go.Proofs.YtalkllfgedacoaaGreatDoor

namespace Go.Proofs.YtalkllfgedacoaaGreatDoor
open Go.RowKit Go.Sort

set_option maxHeartbeats 1000000 in
set_option maxRecDepth 100000 in
theorem Ints_any (A B : Option Addr) (c d : Nat) (l r : List Int) (w : World) (hl : l.length ≤ maxLen) (hr : r.length ≤ maxLen) (hA : Rd w A (ints l)) (hB : Rd w B (ints r)) :
    Calls Tryz.prog 55 #[.slice A l.length c, .slice B r.length d] w fun e w' => e = .returned (.bool (l == r)) ∧ Below w.heap.size w w' := by
  unfold maxLen at hl hr
  have HA := Lib.hid hA
  have HB := Lib.hid hB
  clear hA hB
  generalize hn : l.length = n at hl ⊢
  generalize hm : r.length = m at hr ⊢
  have HN := Lib.hid hn
  have HM := Lib.hid hm
  clear hn hm
  by_cases hnm : n = m
  · subst hnm
    go_enter Tryz.func55, Tryz.ntmps55
    go_wp2
    go_loopw [13] (fun i wr => ∃ k : Nat, k ≤ n ∧ i = .int .i64 k ∧ Below w.heap.size w wr ∧ l.take k = r.take k) (fun i _ => n - (intOf i).toNat)
    case atStart => exact ⟨0, Nat.zero_le _, rfl, Below.refl _ _, by simp⟩
    case round =>
      obtain ⟨k, hk, rfl, hb, ht⟩ := hrel
      have HBW := Lib.hid hb
      have HT := Lib.hid ht
      clear hb ht
      by_cases hlt : k < n
      · obtain ⟨a1, o1, rfl, hl1, hc1⟩ := HA.out.at_ (by rw [ints_length, HN.out]; omega)
        obtain ⟨a2, o2, rfl, hl2, hc2⟩ := HB.out.at_ (by rw [ints_length, HM.out]; omega)
        have x1 : wr.cell? ⟨a1, o1 + k, none⟩ = some (.int .i64 (l.getD k 0)) := by
          rw [HBW.out.cell (p := ⟨a1, o1 + k, none⟩) hl1]; exact hc1 k _ (ints_at (by rw [HN.out]; exact hlt))
        have x2 : wr.cell? ⟨a2, o2 + k, none⟩ = some (.int .i64 (r.getD k 0)) := by
          rw [HBW.out.cell (p := ⟨a2, o2 + k, none⟩) hl2]; exact hc2 k _ (ints_at (by rw [HM.out]; exact hlt))
        clear hc1 hc2
        have q1 : (0 : Int) ≤ (k : Int) := by omega
        have q2 : (k : Int) < (n : Int) := by omega
        generalize hx : l.getD k 0 = x at x1
        generalize hy : r.getD k 0 = y at x2
        have HX := Lib.hid hx
        have HY := Lib.hid hy
        clear hx hy
        by_cases hxy : x = y
        · subst hxy
          go_wp2
          go_quiet (fail)
          go_wp2
          refine ⟨⟨k + 1, by omega, by go_num, Below.drewN' HBW.out nq, ?_⟩, by simp [intOf]; omega⟩
          exact take_snoc_eq l r 0 k (by rw [HN.out]; exact hlt) (by rw [HM.out]; exact hlt) HT.out (by rw [HX.out, HY.out])
        · have hne : (x != y) = true := by simp [hxy]
          have HXY := Lib.hid hxy
          clear hxy
          go_wp2
          go_quiet (fail)
          go_wp2
          go_ret
          exact ⟨ret_bool (ne_of_getD l r 0 k (by rw [HX.out, HY.out]; exact HXY.out)).symm, Below.drewN' HBW.out nq⟩
      · go_wp2
        go_ret
        obtain rfl : k = n := by omega
        exact ⟨ret_bool (eq_of_take l r k HN.out HM.out HT.out).symm, HBW.out⟩
  · have h1 : ((n : Int) != (m : Int)) = true := by rw [bne_iff_ne]; omega
    have HNM := Lib.hid hnm
    clear hnm
    go_enter Tryz.func55, Tryz.ntmps55
    go_wp2
    go_ret
    exact ⟨ret_bool (ne_of_length l r (by rw [HN.out, HM.out]; exact HNM.out)).symm, Below.refl _ _⟩

end Go.Proofs.YtalkllfgedacoaaGreatDoor
