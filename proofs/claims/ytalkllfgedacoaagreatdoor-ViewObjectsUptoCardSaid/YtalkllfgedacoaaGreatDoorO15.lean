/- What the walk's own evaluation of append(nil, one text) lays: a row that is owned. -/
import Derived.Test.YtalkllfgedacoaaGreatDoorO14
import Derived.Test.YtalkllfgedacoaaGreatDoorO1
import Derived.Test.YtalkllfgedacoaaGreatDoorO4
import Derived.Test.YtalkllfgedacoaaGreatDoorO5
namespace Go.Proofs.YtalkllfgedacoaaGreatDoor
open Go.RowKit Go.Sort

set_option maxHeartbeats 16000000 in
set_option maxRecDepth 100000 in
theorem call24_any (A : Option Addr) (n c : Nat) (l : List ByteArray) (w : World) (hl : l.length = n) (hn : n ≤ 1048576) (hc : n ≤ c) (hR : Rd w A (rows l)) (hz : ∀ x ∈ l, x.size ≤ 1073741824) (he : ErrT w) (ht : TabT w) (hm : MLT w) :
    Calls Tryz.prog 66 #[.slice A n c] w fun e w' => CallNo l w e w' ∨ CallOk l w e w' := by
  have HRL := Lib.hid hR
  have HZ := Lib.hid hz
  have HLN := Lib.hid hl
  have HE := Lib.hid he
  have HT := Lib.hid ht
  have HM := Lib.hid hm
  have R1 := Lib.hid (Blk.new w 24 (Reqr.cells ⟨0, 0, 0, false, none, 0, 0⟩))
  have B1 := Lib.hid ((Below.refl w.heap.size w).alloc (Nat.le_refl _) (.cells (Reqr.cells ⟨0, 0, 0, false, none, 0, 0⟩).toArray 24))
  clear hR hz hl he ht hm
  by_cases hn0 : n = 0
  · subst hn0
    have HV : RowKit.Hid (callQ l = none) := Lib.hid (by unfold callQ; rw [if_pos HLN.out])
    go_enter Tryz.func66, Tryz.ntmps66
    go_wp2
    exact bodyPost_ret (v := .tuple #[reqV ⟨0, 0, 0, false, none, 0, 0⟩, .bool false]) (ret_cell2 (g := w.heap.size) (v := reqV ⟨0, 0, 0, false, none, 0, 0⟩) rfl rfl rfl (req_load R1.out)) rfl (.inl ⟨HV.out, _, rfl, B1.out⟩)
  obtain ⟨m, hm⟩ : ∃ m, n = m + 1 := ⟨n - 1, by omega⟩
  subst hm
  have HTL : RowKit.Hid (l.tail.length = m) := Lib.hid (by rw [List.length_tail, HLN.out]; rfl)
  have HZT : RowKit.Hid (∀ x ∈ l.tail, x.size ≤ 1073741824) := Lib.hid (fun x hx => HZ.out x (List.mem_of_mem_tail hx))
  obtain ⟨bb, oo, rfl, hbl, hcl⟩ := strs_cell HRL.out (fun e => by have := HLN.out; rw [e] at this; simp at this)
  have x0 := hcl 0 (l.getD 0 ⟨#[]⟩) (by rw [List.getD, List.getElem?_eq_getElem (by rw [HLN.out]; omega)]; rfl)
  rw [Nat.add_zero] at x0
  have HRT := Lib.hid (rd_tail_at HRL.out (fun e => by have := HLN.out; rw [e] at this; simp at this))
  have HCQ : RowKit.Hid (callQ l = if l.getD 0 ⟨#[]⟩ = selS then selQ l.tail else match numsQ 4294967295 l.tail with
    | none => none
    | some n => wordN (l.getD 0 ⟨#[]⟩) n) := Lib.hid (by unfold callQ; rw [if_neg (by rw [HLN.out]; omega)]; (by_cases h : l.getD 0 ⟨#[]⟩ = selS); (rw [if_pos h, if_pos h]); (rw [if_neg h, if_neg h]); (cases numsQ 4294967295 l.tail <;> rfl))
  clear hcl HZ HLN HRL
  generalize l.tail = lt at *
  generalize l.getD 0 ⟨#[]⟩ = h at *
  by_cases hs : h = selS
  · have e0 : (h.toList == [115, 101, 108, 101, 99, 116]) = true := by rw [hs]; decide +kernel
    have HVS : RowKit.Hid (callQ l = selQ lt) := Lib.hid (by rw [HCQ.out, if_pos hs])
    clear HCQ hs
    by_cases hc1 : c = 1
    · subst hc1
      obtain rfl : m = 0 := by omega
      have HCH := Lib.hid (fun W (hb : Below w.heap.size w W) => selects_any (some ⟨bb, oo, none⟩) 0 0 ([] : List ByteArray) W rfl (Nat.zero_le _) (Nat.le_refl _) (.inl rfl) (fun x hx => by cases hx) (HE.out.below hb) (HT.out.below hb) (HM.out.below hb))
      rw [← List.eq_nil_of_length_eq_zero HTL.out] at HCH
      go_enter Tryz.func66, Tryz.ntmps66
      go_wp2_with fail
      refine (HCH.out _ B1.out).mono ?_
      rintro e w2 (⟨h1, q, rfl, hb2⟩ | ⟨r, A2, c2, h1, k1, k2, k3, rfl, hrd, hab, hb2⟩)
      · have HV : RowKit.Hid (callQ l = none) := Lib.hid (by rw [HVS.out, h1])
        have R2 := Lib.hid (R1.out.below hb2 R1.out.lt)
        have B2 := Lib.hid (B1.out.trans (hb2.mono B1.out.size))
        clear hb2 x0 h1
        have z0 := R2.out.cell (i := 0) rfl
        have f0 := R2.out.frozen 0
        have z1 := R2.out.cell (i := 1) rfl
        have f1 := R2.out.frozen 1
        have z2 := R2.out.cell (i := 2) rfl
        have f2 := R2.out.frozen 2
        have z3 := R2.out.cell (i := 3) rfl
        have f3 := R2.out.frozen 3
        have z4 := R2.out.cell (i := 4) rfl
        have f4 := R2.out.frozen 4
        have hrl := R2.out.lt

        go_wp2
        obtain ⟨hB, hL⟩ := req_put R2.out q
        have hbl := B2.out.trans (hL _ (Nat.le_refl _))
        refine bodyPost_ret (v := .tuple #[reqV q, .bool false]) (ret_cell2 (g := w.heap.size) (v := reqV q) rfl rfl rfl (req_load hB)) rfl ?_
        exact .inl ⟨HV.out, _, rfl, hbl⟩
      · have HV : RowKit.Hid (callQ l = some r) := Lib.hid (by rw [HVS.out, h1])
        have R2 := Lib.hid (R1.out.below hb2 R1.out.lt)
        have B2 := Lib.hid (B1.out.trans (hb2.mono B1.out.size))
        have HRD := Lib.hid hrd
        have HAB := Lib.hid hab
        have HK := Lib.hid (And.intro k1 (And.intro k2 k3))
        have hw1 := R1.out.lt
        clear hb2 x0 h1 hrd hab k1 k2 k3
        generalize hrl : r.cs.length = rn at *
        have HRL2 := Lib.hid hrl
        clear hrl
        have z0 := R2.out.cell (i := 0) rfl
        have f0 := R2.out.frozen 0
        have z1 := R2.out.cell (i := 1) rfl
        have f1 := R2.out.frozen 1
        have z2 := R2.out.cell (i := 2) rfl
        have f2 := R2.out.frozen 2
        have z3 := R2.out.cell (i := 3) rfl
        have f3 := R2.out.frozen 3
        have z4 := R2.out.cell (i := 4) rfl
        have f4 := R2.out.frozen 4
        have hrl := R2.out.lt

        go_wp2
        obtain ⟨hB, hL⟩ := req_put R2.out ⟨3, 0, 0, r.dflt, A2, rn, c2⟩
        have hbl := B2.out.trans (hL _ (Nat.le_refl _))
        have hap : ∀ b o, A2 = some ⟨b, o, none⟩ → b ≠ w.heap.size := fun b o h => by have h1 := HAB.out b o h; omega
        have hr := HRD.out
        refine bodyPost_ret (v := .tuple #[reqV ⟨3, 0, 0, r.dflt, A2, rn, c2⟩, .bool true]) (ret_cell2 (g := w.heap.size) (v := reqV ⟨3, 0, 0, r.dflt, A2, rn, c2⟩) rfl rfl rfl (req_load hB)) rfl ?_
        refine .inr ⟨r, A2, c2, HV.out, ?_, ((((hr.set_ hap _ _).set_ hap _ _).set_ hap _ _).set_ hap _ _).set_ hap _ _, hbl⟩
        rw [HK.out.1, HK.out.2.1, HK.out.2.2, HRL2.out]

    · have q5 : ¬ c - 1 = 0 := by omega
      have HCH := Lib.hid (fun W hb => selects_any (some ⟨bb, oo + 1, none⟩) m (c - 1) lt W HTL.out (by omega) (by omega) (HRT.out.below hb) HZT.out (HE.out.below hb) (HT.out.below hb) (HM.out.below hb))
      go_enter Tryz.func66, Tryz.ntmps66
      go_wp2_with fail
      refine (HCH.out _ B1.out).mono ?_
      rintro e w2 (⟨h1, q, rfl, hb2⟩ | ⟨r, A2, c2, h1, k1, k2, k3, rfl, hrd, hab, hb2⟩)
      · have HV : RowKit.Hid (callQ l = none) := Lib.hid (by rw [HVS.out, h1])
        have R2 := Lib.hid (R1.out.below hb2 R1.out.lt)
        have B2 := Lib.hid (B1.out.trans (hb2.mono B1.out.size))
        clear hb2 x0 h1
        have z0 := R2.out.cell (i := 0) rfl
        have f0 := R2.out.frozen 0
        have z1 := R2.out.cell (i := 1) rfl
        have f1 := R2.out.frozen 1
        have z2 := R2.out.cell (i := 2) rfl
        have f2 := R2.out.frozen 2
        have z3 := R2.out.cell (i := 3) rfl
        have f3 := R2.out.frozen 3
        have z4 := R2.out.cell (i := 4) rfl
        have f4 := R2.out.frozen 4
        have hrl := R2.out.lt

        go_wp2
        obtain ⟨hB, hL⟩ := req_put R2.out q
        have hbl := B2.out.trans (hL _ (Nat.le_refl _))
        refine bodyPost_ret (v := .tuple #[reqV q, .bool false]) (ret_cell2 (g := w.heap.size) (v := reqV q) rfl rfl rfl (req_load hB)) rfl ?_
        exact .inl ⟨HV.out, _, rfl, hbl⟩
      · have HV : RowKit.Hid (callQ l = some r) := Lib.hid (by rw [HVS.out, h1])
        have R2 := Lib.hid (R1.out.below hb2 R1.out.lt)
        have B2 := Lib.hid (B1.out.trans (hb2.mono B1.out.size))
        have HRD := Lib.hid hrd
        have HAB := Lib.hid hab
        have HK := Lib.hid (And.intro k1 (And.intro k2 k3))
        have hw1 := R1.out.lt
        clear hb2 x0 h1 hrd hab k1 k2 k3
        generalize hrl : r.cs.length = rn at *
        have HRL2 := Lib.hid hrl
        clear hrl
        have z0 := R2.out.cell (i := 0) rfl
        have f0 := R2.out.frozen 0
        have z1 := R2.out.cell (i := 1) rfl
        have f1 := R2.out.frozen 1
        have z2 := R2.out.cell (i := 2) rfl
        have f2 := R2.out.frozen 2
        have z3 := R2.out.cell (i := 3) rfl
        have f3 := R2.out.frozen 3
        have z4 := R2.out.cell (i := 4) rfl
        have f4 := R2.out.frozen 4
        have hrl := R2.out.lt

        go_wp2
        obtain ⟨hB, hL⟩ := req_put R2.out ⟨3, 0, 0, r.dflt, A2, rn, c2⟩
        have hbl := B2.out.trans (hL _ (Nat.le_refl _))
        have hap : ∀ b o, A2 = some ⟨b, o, none⟩ → b ≠ w.heap.size := fun b o h => by have h1 := HAB.out b o h; omega
        have hr := HRD.out
        refine bodyPost_ret (v := .tuple #[reqV ⟨3, 0, 0, r.dflt, A2, rn, c2⟩, .bool true]) (ret_cell2 (g := w.heap.size) (v := reqV ⟨3, 0, 0, r.dflt, A2, rn, c2⟩) rfl rfl rfl (req_load hB)) rfl ?_
        refine .inr ⟨r, A2, c2, HV.out, ?_, ((((hr.set_ hap _ _).set_ hap _ _).set_ hap _ _).set_ hap _ _).set_ hap _ _, hbl⟩
        rw [HK.out.1, HK.out.2.1, HK.out.2.2, HRL2.out]

  · have hv := HCQ.out
    rw [if_neg hs] at hv
    exact call24_num bb oo c m l lt h w hn hc hbl x0 HTL.out HZT.out HRT.out hs hv HE.out HT.out

end Go.Proofs.YtalkllfgedacoaaGreatDoor

namespace Go.Proofs.YtalkllfgedacoaaGreatDoor
open Go.RowKit Go.Sort

def words (l : List Int) : List Value := l.map (Value.int .u64)
theorem words_at {l : List Int} {k : Nat} (h : k < l.length) : (words l)[k]? = some (.int .u64 (l.getD k 0)) := by
  simp [words, List.getD, List.getElem?_eq_getElem h]
theorem words_length (l : List Int) : (words l).length = l.length := by simp [words]

theorem eq_of_take {α : Type} [BEq α] [LawfulBEq α] (l r : List α) (n : Nat) (hl : l.length = n) (hr : r.length = n) (h : l.take n = r.take n) : (l == r) = true := by
  rw [List.take_of_length_le (by omega), List.take_of_length_le (by omega)] at h
  simp [h]
theorem take_snoc_eq {α : Type} (l r : List α) (d : α) (k : Nat) (hl : k < l.length) (hr : k < r.length) (h : l.take k = r.take k) (he : l.getD k d = r.getD k d) : l.take (k + 1) = r.take (k + 1) := by
  rw [List.take_succ_eq_append_getElem hl, List.take_succ_eq_append_getElem hr, h]
  simp [List.getD, hl, hr] at he
  rw [he]
theorem ne_of_getD {α : Type} [BEq α] [LawfulBEq α] (l r : List α) (d : α) (k : Nat) (he : ¬ l.getD k d = r.getD k d) : (l == r) = false := by
  rw [beq_eq_false_iff_ne]; rintro rfl; exact he rfl
theorem ne_of_length {α : Type} [BEq α] [LawfulBEq α] (l r : List α) (he : ¬ l.length = r.length) : (l == r) = false := by
  rw [beq_eq_false_iff_ne]; rintro rfl; exact he rfl

end Go.Proofs.YtalkllfgedacoaaGreatDoor

namespace Go.Proofs.YtalkllfgedacoaaGreatDoor
open Go.RowKit Go.Sort

theorem neq_cse (x y : Cse) (w : World) : (binOp .neq 110 (cseV x) (cseV y)).run Tryz.prog w = .ok (.bool (!decide (x = y))) w := by
  obtain ⟨x0, x1, x2⟩ := x
  obtain ⟨y0, y1, y2⟩ := y
  unfold cseV
  simp [go_sem, binOp, Op.equal, Op.maxDepth]
  by_cases h0 : x0 = y0 <;> by_cases h1 : x1 = y1 <;> by_cases h2 : x2 = y2 <;> simp [h0, h1, h2]

theorem take_eq_step {l r : List Cse} {k : Nat} (hl : k < l.length) (hr : k < r.length) (h : l.take k = r.take k) : (l.take (k + 1) = r.take (k + 1)) ↔ l.getD k Cse.none = r.getD k Cse.none := by
  have e1 : l.take (k + 1) = l.take k ++ [l[k]] := List.take_succ_eq_append_getElem hl
  have e2 : r.take (k + 1) = r.take k ++ [r[k]] := List.take_succ_eq_append_getElem hr
  have g1 : l.getD k Cse.none = l[k] := by rw [List.getD, List.getElem?_eq_getElem hl]; rfl
  have g2 : r.getD k Cse.none = r[k] := by rw [List.getD, List.getElem?_eq_getElem hr]; rfl
  rw [e1, e2, g1, g2, h]
  constructor
  · intro e
    have := List.append_cancel_left e
    simpa using this
  · intro e
    rw [e]

set_option maxHeartbeats 8000000 in
set_option maxRecDepth 100000 in
theorem CasesEq_any (A B : Option Addr) (n m c d : Nat) (l r : List Cse) (w : World) (hl : l.length = n) (hr : r.length = m) (hn : n ≤ 4611686018427387904) (hm : m ≤ 4611686018427387904) (hA : Rd w A (rows l)) (hB : Rd w B (rows r)) :
    Calls Tryz.prog 93 #[.slice A n c, .slice B m d] w fun e w' => e = .returned (.bool (l == r)) ∧ Below w.heap.size w w' := by
  have HA := Lib.hid hA
  have HB := Lib.hid hB
  have HL := Lib.hid hl
  have HR := Lib.hid hr
  clear hA hB hl hr
  by_cases hnm : n = m
  · subst hnm
    go_enter Tryz.func93, Tryz.ntmps93
    go_wp2
    go_loopw [13] (fun i wr => ∃ k : Nat, k ≤ n ∧ i = .int .i64 k ∧ l.take k = r.take k ∧ Below w.heap.size w wr) (fun i _ => n - (intOf i).toNat)
    case atStart => exact ⟨0, Nat.zero_le _, rfl, rfl, Below.refl _ _⟩
    case round =>
      obtain ⟨k, hk, rfl, htk, hb⟩ := hrel
      have HBW := Lib.hid hb
      have HTK := Lib.hid htk
      clear hb htk
      by_cases hlt : k < n
      · have hkl : k < l.length := by rw [HL.out]; exact hlt
        have hkr : k < r.length := by rw [HR.out]; exact hlt
        obtain ⟨a1, o1, rfl, hl1, hc1⟩ := HA.out.at_ (by rw [rows_length]; exact Nat.mul_pos (by omega) (by decide))
        obtain ⟨a2, o2, rfl, hl2, hc2⟩ := HB.out.at_ (by rw [rows_length]; exact Nat.mul_pos (by omega) (by decide))
        have hd1 : ∀ j v, (rows l)[j]? = some v → wr.cell? ⟨a1, o1 + j, none⟩ = some v := fun j v hj => by
          rw [HBW.out.cell (p := ⟨a1, o1 + j, none⟩) hl1]; exact hc1 j v hj
        have hd2 : ∀ j v, (rows r)[j]? = some v → wr.cell? ⟨a2, o2 + j, none⟩ = some v := fun j v hj => by
          rw [HBW.out.cell (p := ⟨a2, o2 + j, none⟩) hl2]; exact hc2 j v hj
        obtain ⟨x0, x1, x2⟩ := cse_cells hd1 hkl rfl
        obtain ⟨y0, y1, y2⟩ := cse_cells hd2 hkr rfl
        have HST := Lib.hid (take_eq_step hkl hkr HTK.out)
        generalize l.getD k Cse.none = x at *
        generalize r.getD k Cse.none = y at *
        have hne := neq_cse x y
        unfold cseV at hne
        clear hc1 hc2 hd1 hd2 hkl hkr
        have q1 : (0 : Int) ≤ (k : Int) := by omega
        have q2 : (k : Int) < (n : Int) := by omega
        by_cases hxy : x = y
        · have HXY := Lib.hid (HST.out.2 hxy)
          rw [decide_eq_true hxy] at hne
          clear hxy
          go_wp2
          go_quiet (fail)
          go_wp2
          exact ⟨⟨k + 1, by omega, by go_num, HXY.out, Below.drewN' HBW.out nq⟩, by simp [intOf]; omega⟩
        · have HXY : RowKit.Hid (¬ l = r) := Lib.hid (fun e => hxy (HST.out.1 (by rw [e])))
          rw [decide_eq_false hxy] at hne
          clear hxy
          go_wp2
          go_quiet (fail)
          go_wp2
          go_ret
          exact ⟨by rw [show (l == r) = false from beq_eq_false_iff_ne.2 HXY.out]; rfl, Below.drewN' HBW.out nq⟩
      · obtain rfl : k = n := by omega
        have HE : RowKit.Hid (l = r) := Lib.hid (by
          have := HTK.out
          rwa [List.take_of_length_le (by rw [HL.out]; exact Nat.le_refl _), List.take_of_length_le (by rw [HR.out]; exact Nat.le_refl _)] at this)
        go_wp2
        go_ret
        exact ⟨by rw [HE.out]; simp, HBW.out⟩
  · have HE : RowKit.Hid (¬ l = r) := Lib.hid (fun e => hnm (by rw [← HL.out, ← HR.out, e]))
    have q0 : ((n : Int) == (m : Int)) = false := by rw [beq_eq_false_iff_ne]; omega
    have q1 : ((n : Int) != (m : Int)) = true := by rw [bne_iff_ne]; omega
    go_enter Tryz.func93, Tryz.ntmps93
    go_wp2
    go_ret
    exact ⟨by rw [show (l == r) = false from beq_eq_false_iff_ne.2 HE.out]; rfl, Below.refl _ _⟩

set_option maxHeartbeats 8000000 in
set_option maxRecDepth 100000 in
theorem same24_any (p q : Reqr) (l r : List Cse) (w : World) (hn : p.n ≤ 4611686018427387904) (hm : q.n ≤ 4611686018427387904) (hp : ReqAt w p l) (hq : ReqAt w q r) :
    Calls Tryz.prog 52 #[reqV p, reqV q] w fun e w' => e = .returned (.bool (p.kind == q.kind && p.arg == q.arg && p.value == q.value && p.dflt == q.dflt && l == r)) ∧ Below w.heap.size w w' := by
  have HC := Lib.hid (fun W h1 h2 => CasesEq_any p.A q.A p.n q.n p.c q.c l r W hp.len hq.len hn hm h1 h2)
  have HP := Lib.hid hp.rd
  have HQ := Lib.hid hq.rd
  clear hp hq hn hm
  obtain ⟨k1, a1, v1, d1, A1, n1, c1⟩ := p
  obtain ⟨k2, a2, v2, d2, A2, n2, c2⟩ := q
  unfold reqV
  simp only at HC HP HQ ⊢
  generalize hL : (l == r) = L at *
  clear hL
  cases hk : (k1 == k2)
  case true =>
    cases ha : (a1 == a2)
    case true =>
      cases hv : (v1 == v2)
      case true =>
        cases hd : (d1 == d2)
        case true =>
          go_enter Tryz.func52, Tryz.ntmps52
          go_wp2_with (go_at_call 93; refine (HC.out _ ((HP.out.alloc _).alloc _) ((HQ.out.alloc _).alloc _)).mono ?_; rintro e w1 ⟨rfl, hb1⟩)
          go_ret
          exact ⟨by simp, (((Below.refl _ _).alloc (Nat.le_refl _) _).alloc (by simp) _).trans (hb1.mono (by simp; omega))⟩
        all_goals
          go_enter Tryz.func52, Tryz.ntmps52
          go_wp2
          go_ret
          exact ⟨by simp, ((Below.refl _ _).alloc (Nat.le_refl _) _).alloc (by simp) _⟩
      all_goals
        go_enter Tryz.func52, Tryz.ntmps52
        go_wp2
        go_ret
        exact ⟨by simp, ((Below.refl _ _).alloc (Nat.le_refl _) _).alloc (by simp) _⟩
    all_goals
      go_enter Tryz.func52, Tryz.ntmps52
      go_wp2
      go_ret
      exact ⟨by simp, ((Below.refl _ _).alloc (Nat.le_refl _) _).alloc (by simp) _⟩
  all_goals
    go_enter Tryz.func52, Tryz.ntmps52
    go_wp2
    go_ret
    exact ⟨by simp, ((Below.refl _ _).alloc (Nat.le_refl _) _).alloc (by simp) _⟩

end Go.Proofs.YtalkllfgedacoaaGreatDoor

namespace Go.Proofs.YtalkllfgedacoaaGreatDoor
open Go.RowKit Go.Sort

theorem tabQ_len {h : ByteArray} {m : Nat} {a b : Int} {r : Rq} (e : tabQ h m a b = some r) : r.cs.length ≤ 3 := by
  have key : ∀ (p : Prop) [Decidable p] (x : Rq), x.cs.length ≤ 3 → (if p then some x else none) = some r → r.cs.length ≤ 3 := fun p _ x hx hh => by
    by_cases hp : p
    · rw [if_pos hp] at hh; injection hh with hh; rw [← hh]; exact hx
    · rw [if_neg hp] at hh; cases hh
  unfold tabQ at e
  by_cases g_make : h = w_makeS
  · rw [if_pos g_make] at e; exact key _ _ (Nat.le_of_ble_eq_true rfl) e
  rw [if_neg g_make] at e
  by_cases g_free : h = w_freeS
  · rw [if_pos g_free] at e; exact key _ _ (Nat.le_of_ble_eq_true rfl) e
  rw [if_neg g_free] at e
  by_cases g_close : h = w_closeS
  · rw [if_pos g_close] at e; exact key _ _ (Nat.le_of_ble_eq_true rfl) e
  rw [if_neg g_close] at e
  by_cases g_len : h = w_lenS
  · rw [if_pos g_len] at e; exact key _ _ (Nat.le_of_ble_eq_true rfl) e
  rw [if_neg g_len] at e
  by_cases g_cap : h = w_capS
  · rw [if_pos g_cap] at e; exact key _ _ (Nat.le_of_ble_eq_true rfl) e
  rw [if_neg g_cap] at e
  by_cases g_send : h = w_sendS
  · rw [if_pos g_send] at e; exact key _ _ (Nat.le_of_ble_eq_true rfl) e
  rw [if_neg g_send] at e
  by_cases g_recv : h = w_recvS
  · rw [if_pos g_recv] at e; exact key _ _ (Nat.le_of_ble_eq_true rfl) e
  rw [if_neg g_recv] at e
  by_cases g_trysend : h = w_trysendS
  · rw [if_pos g_trysend] at e; exact key _ _ (Nat.le_of_ble_eq_true rfl) e
  rw [if_neg g_trysend] at e
  by_cases g_tryrecv : h = w_tryrecvS
  · rw [if_pos g_tryrecv] at e; exact key _ _ (Nat.le_of_ble_eq_true rfl) e
  rw [if_neg g_tryrecv] at e
  by_cases g_cancel : h = w_cancelS
  · rw [if_pos g_cancel] at e; exact key _ _ (Nat.le_of_ble_eq_true rfl) e
  rw [if_neg g_cancel] at e
  by_cases g_put : h = w_putS
  · rw [if_pos g_put] at e; exact key _ _ (Nat.le_of_ble_eq_true rfl) e
  rw [if_neg g_put] at e
  by_cases g_take : h = w_takeS
  · rw [if_pos g_take] at e; exact key _ _ (Nat.le_of_ble_eq_true rfl) e
  rw [if_neg g_take] at e
  cases e

theorem callQ_len {l : List ByteArray} {r : Rq} (h : callQ l = some r) : r.cs.length ≤ 3 := by
  unfold callQ at h
  split at h
  · cases h
  · split at h
    · unfold selQ selN at h
      split at h
      · cases h
      · split at h
        · rename_i hh
          injection h with h
          subst h
          exact hh.2
        · cases h
    · split at h
      · cases h
      · unfold wordN at h
        split at h
        · cases h
        · exact tabQ_len h

end Go.Proofs.YtalkllfgedacoaaGreatDoor

namespace Go.Proofs.YtalkllfgedacoaaGreatDoor
open Go.RowKit Go.Sort

theorem cut_cap (W : World) (t : TypeId) : 1 ≤ (Question.appendCap 1 0 t).cut (W.tape W.drawn (Question.appendCap 1 0 t)) ∧ (Question.appendCap 1 0 t).cut (W.tape W.drawn (Question.appendCap 1 0 t)) ≤ maxLen := by
  simp only [Question.cut, maxLen]
  have := Nat.mod_lt (W.tape W.drawn (Question.appendCap 1 0 t)) (show 0 < 2 ^ 63 - 1 by decide)
  omega

theorem own_walked {w : World} {x : ByteArray} {C : Nat} {t : TypeId} (h1 : 1 ≤ C) (h2 : C ≤ maxLen) {base : Nat} (hb : base ≤ w.heap.size) :
    ((w.alloc (.cells (#[.string x] ++ Builtin.zeroCells #[.string ⟨#[]⟩] (C - 1)) t)).drew).ownsRow base t 1 (.slice (some ⟨w.heap.size, 0, none⟩) 1 C) 1 (rows [x]) := by
  refine ⟨rfl, .inr ⟨w.heap.size, C, _, rfl, hb, heap_alloc_new w _, h1, h2, ?_, ?_⟩⟩
  · rw [Array.size_append, size_zeroCells]
    show 1 + (C - 1) * 1 = C * 1
    omega
  · rw [Array.toList_append]
    rfl

end Go.Proofs.YtalkllfgedacoaaGreatDoor
