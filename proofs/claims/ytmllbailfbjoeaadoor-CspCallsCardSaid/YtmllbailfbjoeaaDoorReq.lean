/- Calls held against each other: they are the same. -/
import Derived.Test.YtmllbailfbjoeaaDoorCsp1
import Derived.Test.YtmllbailfbjoeaaDoorEqP
namespace Go.Proofs.YtmllbailfbjoeaaDoor
open Go.RowKit Go.Sort

theorem neq_cse_same (x : Cse) (w : World) : (binOp .neq 37 (cseV x) (cseV x)).run Tryd.prog w = .ok (.bool false) w := by
  unfold cseV
  simp [go_sem, binOp, Op.equal, Op.maxDepth]

set_option maxHeartbeats 1000000 in
set_option maxRecDepth 100000 in
theorem Cases_same (A B : Option Addr) (c d n : Nat) (l : List Cse) (w : World) (hn : l.length = n) (hl : n ≤ maxLen) (hA : Rd w A (rows l)) (hB : Rd w B (rows l)) :
    Calls Tryd.prog 60 #[.slice A n c, .slice B n d] w fun e w' => e = .returned (.bool true) ∧ Below w.heap.size w w' := by
  unfold maxLen at hl
  have HA := Lib.hid hA
  have HB := Lib.hid hB
  have HN := Lib.hid hn
  clear hA hB hn
  go_enter Tryd.func60, Tryd.ntmps60
  go_wp2
  go_loopw [13] (fun i wr => ∃ k : Nat, k ≤ n ∧ i = .int .i64 k ∧ Below w.heap.size w wr) (fun i _ => n - (intOf i).toNat)
  case atStart => exact ⟨0, Nat.zero_le _, rfl, Below.refl _ _⟩
  case round =>
    obtain ⟨k, hk, rfl, hb⟩ := hrel
    have HBW := Lib.hid hb
    clear hb
    by_cases hlt : k < n
    · have hkl : k < l.length := by rw [HN.out]; exact hlt
      obtain ⟨a1, o1, rfl, hl1, hc1⟩ := HA.out.at_ (by rw [rows_length]; exact Nat.mul_pos (by omega) (by decide))
      obtain ⟨a2, o2, rfl, hl2, hc2⟩ := HB.out.at_ (by rw [rows_length]; exact Nat.mul_pos (by omega) (by decide))
      have hd1 : ∀ j v, (rows l)[j]? = some v → wr.cell? ⟨a1, o1 + j, none⟩ = some v := fun j v hj => by
        rw [HBW.out.cell (p := ⟨a1, o1 + j, none⟩) hl1]; exact hc1 j v hj
      have hd2 : ∀ j v, (rows l)[j]? = some v → wr.cell? ⟨a2, o2 + j, none⟩ = some v := fun j v hj => by
        rw [HBW.out.cell (p := ⟨a2, o2 + j, none⟩) hl2]; exact hc2 j v hj
      obtain ⟨x0, x1, x2⟩ := cse_cells hd1 hkl rfl
      obtain ⟨y0, y1, y2⟩ := cse_cells hd2 hkl rfl
      generalize l.getD k Cse.none = x at *
      have hne := neq_cse_same x
      unfold cseV at hne
      clear hc1 hc2 hd1 hd2 hkl
      have q1 : (0 : Int) ≤ (k : Int) := by omega
      have q2 : (k : Int) < (n : Int) := by omega
      go_wp2
      go_quiet (fail)
      go_wp2
      exact ⟨⟨k + 1, by omega, by go_num, Below.drewN' HBW.out nq⟩, by simp [intOf]; omega⟩
    · go_wp2
      go_ret
      exact ⟨rfl, HBW.out⟩

/-- Two calls that say the same. -/
def SameReq (w : World) (p q : Reqr) : Prop := p.kind = q.kind ∧ p.arg = q.arg ∧ p.value = q.value ∧ p.dflt = q.dflt ∧ ∃ l, l.length ≤ maxLen ∧ ReqAt w p l ∧ ReqAt w q l
theorem SameReq.below {w w' : World} {p q : Reqr} (h : SameReq w p q) (hb : Below w.heap.size w w') : SameReq w' p q := by
  obtain ⟨a, b, c, d, l, hl, h1, h2⟩ := h
  exact ⟨a, b, c, d, l, hl, h1.below hb, h2.below hb⟩

set_option maxHeartbeats 4000000 in
set_option maxRecDepth 100000 in
theorem Req_same (p q : Reqr) (w : World) (h : SameReq w p q) :
    Calls Tryd.prog 24 #[reqV p, reqV q] w fun e w' => e = .returned (.bool true) ∧ Below w.heap.size w w' := by
  obtain ⟨k1, a1, v1, d1, A1, n1, c1⟩ := p
  obtain ⟨k2, a2, v2, d2, A2, n2, c2⟩ := q
  obtain ⟨h1, h2, h3, h4, l, hl, hp, hq⟩ := h
  simp only at h1 h2 h3 h4
  subst h1 h2 h3 h4
  have hn1 : l.length = n1 := hp.len
  have hn2 : l.length = n2 := hq.len
  have h12 : n1 = n2 := by omega
  subst h12
  have HC := Lib.hid (fun W h1 h2 => Cases_same A1 A2 c1 c2 n1 l W hn1 (by omega) h1 h2)
  have HP := Lib.hid hp.rd
  have HQ := Lib.hid hq.rd
  have hbx := ((Below.refl w.heap.size w).alloc (Nat.le_refl _) (.cells #[.int .i64 k1, .int .i64 a1, .int .i64 v1, .bool d1, .slice A1 n1 c1] 24)).alloc (by simp) (.cells #[.int .i64 k1, .int .i64 a1, .int .i64 v1, .bool d1, .slice A2 n1 c2] 24)
  have HBX := Lib.hid hbx
  clear hn1 hn2 hp hq hl hbx
  simp only at HP HQ
  cases d1
  all_goals
    go_enter Tryd.func24, Tryd.ntmps24
    go_wp2_with (first | (go_at_call 60; refine (HC.out _ (HP.out.below HBX.out) (HQ.out.below HBX.out)).mono ?_; rintro e w2 ⟨rfl, hb2⟩; have HB2 := Lib.hid (HBX.out.trans (hb2.mono HBX.out.size)); clear hb2))
    go_ret
    exact ⟨rfl, HB2.out⟩

end Go.Proofs.YtmllbailfbjoeaaDoor
