/- The document's same, walked. -/
import Derived.Test.YtalkllfgedacoaaGreatDoorO2
import Derived.Test.YtalkllfgedacoaaGreatDoorO15
namespace Go.Proofs.YtalkllfgedacoaaGreatDoor
open Go.RowKit Go.Sort

set_option maxHeartbeats 4000000 in
set_option maxRecDepth 100000 in
theorem rName_no (q : Reqr) (l : List Cse) (w : World) (hk : ¬ (1 ≤ q.kind ∧ q.kind ≤ 9)) :
    Calls Tryz.prog 67 #[reqV q] w fun e w' => e = .returned (.string (nameS q l)) ∧ Below w.heap.size w w' := by
  have HNS : RowKit.Hid (nameS q l = ⟨#[]⟩) := Lib.hid (by unfold nameS; rw [if_neg (by omega), if_neg (by omega), if_neg (by omega), if_neg (by omega), if_neg (by omega), if_neg (by omega), if_neg (by omega), if_neg (by omega), if_neg (by omega)])
  unfold reqV
  by_cases h1 : q.kind < 1
  · clear hk
    go_enter Tryz.func67, Tryz.ntmps67
    go_wp2
    go_ret
    exact ⟨by rw [HNS.out]; rfl, (Below.refl _ _).alloc (Nat.le_refl _) _⟩
  · have h2 : 9 < q.kind := by omega
    clear hk
    go_enter Tryz.func67, Tryz.ntmps67
    go_wp2
    go_ret
    exact ⟨by rw [HNS.out]; rfl, (Below.refl _ _).alloc (Nat.le_refl _) _⟩

set_option maxHeartbeats 4000000 in
set_option maxRecDepth 100000 in
theorem rName_k1 (q : Reqr) (l : List Cse) (w : World) (hk : q.kind = 1) :
    Calls Tryz.prog 67 #[reqV q] w fun e w' => e = .returned (.string (nameS q l)) ∧ Below w.heap.size w w' := by
  have HNS : RowKit.Hid (nameS q l = ⟨#[109, 97, 107, 101]⟩) := Lib.hid (by unfold nameS; rw [if_neg (by omega), if_pos hk])
  unfold reqV
  rw [hk]
  clear hk
  go_enter Tryz.func67, Tryz.ntmps67
  go_wp2
  go_ret
  exact ⟨by rw [HNS.out]; rfl, ((Below.refl _ _).alloc (Nat.le_refl _) _).alloc (by simp) _⟩

set_option maxHeartbeats 4000000 in
set_option maxRecDepth 100000 in
theorem rName_k2 (q : Reqr) (l : List Cse) (w : World) (hk : q.kind = 2) :
    Calls Tryz.prog 67 #[reqV q] w fun e w' => e = .returned (.string (nameS q l)) ∧ Below w.heap.size w w' := by
  have HNS : RowKit.Hid (nameS q l = ⟨#[102, 114, 101, 101]⟩) := Lib.hid (by unfold nameS; rw [if_neg (by omega), if_neg (by omega), if_pos hk])
  unfold reqV
  rw [hk]
  clear hk
  go_enter Tryz.func67, Tryz.ntmps67
  go_wp2
  go_ret
  exact ⟨by rw [HNS.out]; rfl, ((Below.refl _ _).alloc (Nat.le_refl _) _).alloc (by simp) _⟩

set_option maxHeartbeats 4000000 in
set_option maxRecDepth 100000 in
theorem rName_k4 (q : Reqr) (l : List Cse) (w : World) (hk : q.kind = 4) :
    Calls Tryz.prog 67 #[reqV q] w fun e w' => e = .returned (.string (nameS q l)) ∧ Below w.heap.size w w' := by
  have HNS : RowKit.Hid (nameS q l = ⟨#[99, 108, 111, 115, 101]⟩) := Lib.hid (by unfold nameS; rw [if_neg (by omega), if_neg (by omega), if_neg (by omega), if_pos hk])
  unfold reqV
  rw [hk]
  clear hk
  go_enter Tryz.func67, Tryz.ntmps67
  go_wp2
  go_ret
  exact ⟨by rw [HNS.out]; rfl, ((Below.refl _ _).alloc (Nat.le_refl _) _).alloc (by simp) _⟩

set_option maxHeartbeats 4000000 in
set_option maxRecDepth 100000 in
theorem rName_k5 (q : Reqr) (l : List Cse) (w : World) (hk : q.kind = 5) :
    Calls Tryz.prog 67 #[reqV q] w fun e w' => e = .returned (.string (nameS q l)) ∧ Below w.heap.size w w' := by
  have HNS : RowKit.Hid (nameS q l = ⟨#[108, 101, 110]⟩) := Lib.hid (by unfold nameS; rw [if_neg (by omega), if_neg (by omega), if_neg (by omega), if_neg (by omega), if_pos hk])
  unfold reqV
  rw [hk]
  clear hk
  go_enter Tryz.func67, Tryz.ntmps67
  go_wp2
  go_ret
  exact ⟨by rw [HNS.out]; rfl, ((Below.refl _ _).alloc (Nat.le_refl _) _).alloc (by simp) _⟩

set_option maxHeartbeats 4000000 in
set_option maxRecDepth 100000 in
theorem rName_k6 (q : Reqr) (l : List Cse) (w : World) (hk : q.kind = 6) :
    Calls Tryz.prog 67 #[reqV q] w fun e w' => e = .returned (.string (nameS q l)) ∧ Below w.heap.size w w' := by
  have HNS : RowKit.Hid (nameS q l = ⟨#[99, 97, 112]⟩) := Lib.hid (by unfold nameS; rw [if_neg (by omega), if_neg (by omega), if_neg (by omega), if_neg (by omega), if_neg (by omega), if_pos hk])
  unfold reqV
  rw [hk]
  clear hk
  go_enter Tryz.func67, Tryz.ntmps67
  go_wp2
  go_ret
  exact ⟨by rw [HNS.out]; rfl, ((Below.refl _ _).alloc (Nat.le_refl _) _).alloc (by simp) _⟩

set_option maxHeartbeats 4000000 in
set_option maxRecDepth 100000 in
theorem rName_k7 (q : Reqr) (l : List Cse) (w : World) (hk : q.kind = 7) :
    Calls Tryz.prog 67 #[reqV q] w fun e w' => e = .returned (.string (nameS q l)) ∧ Below w.heap.size w w' := by
  have HNS : RowKit.Hid (nameS q l = ⟨#[99, 97, 110, 99, 101, 108]⟩) := Lib.hid (by unfold nameS; rw [if_neg (by omega), if_neg (by omega), if_neg (by omega), if_neg (by omega), if_neg (by omega), if_neg (by omega), if_pos hk])
  unfold reqV
  rw [hk]
  clear hk
  go_enter Tryz.func67, Tryz.ntmps67
  go_wp2
  go_ret
  exact ⟨by rw [HNS.out]; rfl, ((Below.refl _ _).alloc (Nat.le_refl _) _).alloc (by simp) _⟩

set_option maxHeartbeats 4000000 in
set_option maxRecDepth 100000 in
theorem rName_k8 (q : Reqr) (l : List Cse) (w : World) (hk : q.kind = 8) :
    Calls Tryz.prog 67 #[reqV q] w fun e w' => e = .returned (.string (nameS q l)) ∧ Below w.heap.size w w' := by
  have HNS : RowKit.Hid (nameS q l = ⟨#[112, 117, 116]⟩) := Lib.hid (by unfold nameS; rw [if_neg (by omega), if_neg (by omega), if_neg (by omega), if_neg (by omega), if_neg (by omega), if_neg (by omega), if_neg (by omega), if_pos hk])
  unfold reqV
  rw [hk]
  clear hk
  go_enter Tryz.func67, Tryz.ntmps67
  go_wp2
  go_ret
  exact ⟨by rw [HNS.out]; rfl, ((Below.refl _ _).alloc (Nat.le_refl _) _).alloc (by simp) _⟩

set_option maxHeartbeats 4000000 in
set_option maxRecDepth 100000 in
theorem rName_k9 (q : Reqr) (l : List Cse) (w : World) (hk : q.kind = 9) :
    Calls Tryz.prog 67 #[reqV q] w fun e w' => e = .returned (.string (nameS q l)) ∧ Below w.heap.size w w' := by
  have HNS : RowKit.Hid (nameS q l = ⟨#[116, 97, 107, 101]⟩) := Lib.hid (by unfold nameS; rw [if_neg (by omega), if_neg (by omega), if_neg (by omega), if_neg (by omega), if_neg (by omega), if_neg (by omega), if_neg (by omega), if_neg (by omega), if_pos hk])
  unfold reqV
  rw [hk]
  clear hk
  go_enter Tryz.func67, Tryz.ntmps67
  go_wp2
  go_ret
  exact ⟨by rw [HNS.out]; rfl, ((Below.refl _ _).alloc (Nat.le_refl _) _).alloc (by simp) _⟩

theorem try_send (d : Bool) : tryS d ++ ⟨#[115, 101, 110, 100]⟩ = (if d then ⟨#[116, 114, 121]⟩ ++ ⟨#[115, 101, 110, 100]⟩ else ⟨#[115, 101, 110, 100]⟩ : ByteArray) := by cases d <;> decide +kernel
theorem try_recv (d : Bool) : tryS d ++ ⟨#[114, 101, 99, 118]⟩ = (if d then ⟨#[116, 114, 121]⟩ ++ ⟨#[114, 101, 99, 118]⟩ else ⟨#[114, 101, 99, 118]⟩ : ByteArray) := by cases d <;> decide +kernel

set_option maxHeartbeats 4000000 in
set_option maxRecDepth 100000 in
theorem rName_sel (q : Reqr) (l : List Cse) (w : World) (h : ReqAt w q l) (hk : q.kind = 3) :
    Calls Tryz.prog 67 #[reqV q] w fun e w' => e = .returned (.string (nameS q l)) ∧ Below w.heap.size w w' := by
  have HNS0 : RowKit.Hid (nameS q l = namedS q l) := Lib.hid (by unfold nameS; rw [if_pos hk])
  unfold reqV
  by_cases h1 : q.n = 1
  · obtain ⟨b, o, hA, hbl, hc⟩ := h.rd.at_ (by rw [rows_length, h.len, h1]; decide)
    have hxx : l.getD 0 Cse.none = l.getD 0 Cse.none := rfl
    obtain ⟨c0, _, _⟩ := cse_cells hc (k := 0) (by rw [h.len, h1]; decide) hxx
    simp only [Nat.zero_mul, Nat.add_zero] at c0
    have c0' : ∀ ob, (w.alloc ob).cell? ⟨b, o, none⟩ = some (.int .i64 (l.getD 0 Cse.none).dir) := fun ob => by rw [World.cell?_alloc_lt _ _ _ (by exact hbl)]; exact c0
    have HNS : RowKit.Hid (nameS q l = if (l.getD 0 Cse.none).dir = 1 then tryS q.dflt ++ ⟨#[115, 101, 110, 100]⟩ else if (l.getD 0 Cse.none).dir = 2 then tryS q.dflt ++ ⟨#[114, 101, 99, 118]⟩ else selS) := Lib.hid (by rw [HNS0.out]; unfold namedS; rw [if_pos h1])
    generalize (l.getD 0 Cse.none).dir = d at *
    clear h hxx hc HNS0
    rw [hA, h1, hk]
    clear hk h1
    have hne : ¬ b = w.heap.size := by omega
    by_cases d1 : d = 1
    · have HF : RowKit.Hid (nameS q l = (if q.dflt then ⟨#[116, 114, 121]⟩ ++ ⟨#[115, 101, 110, 100]⟩ else ⟨#[115, 101, 110, 100]⟩ : ByteArray)) := Lib.hid (by rw [HNS.out, if_pos d1, try_send])
      subst d1
      clear HNS
      cases hd : q.dflt
      all_goals
        rw [hd] at HF
        go_enter Tryz.func67, Tryz.ntmps67
        go_wp2
        go_ret
        exact ⟨by rw [HF.out]; rfl, (Below.refl _ _).alloc (Nat.le_refl _) _⟩
    · by_cases d2 : d = 2
      · have HF : RowKit.Hid (nameS q l = (if q.dflt then ⟨#[116, 114, 121]⟩ ++ ⟨#[114, 101, 99, 118]⟩ else ⟨#[114, 101, 99, 118]⟩ : ByteArray)) := Lib.hid (by rw [HNS.out, if_neg d1, if_pos d2, try_recv])
        subst d2
        clear HNS
        cases hd : q.dflt
        all_goals
          rw [hd] at HF
          go_enter Tryz.func67, Tryz.ntmps67
          go_wp2
          go_ret
          exact ⟨by rw [HF.out]; rfl, (Below.refl _ _).alloc (Nat.le_refl _) _⟩
      · have HD := Lib.hid (And.intro d1 d2)
        by_cases d3 : d < 1
        · clear d1 d2
          go_enter Tryz.func67, Tryz.ntmps67
          go_wp2
          go_ret
          exact ⟨by rw [HNS.out, if_neg HD.out.1, if_neg HD.out.2]; rfl, (Below.refl _ _).alloc (Nat.le_refl _) _⟩
        · have d4 : 2 < d := by omega
          clear d1 d2
          go_enter Tryz.func67, Tryz.ntmps67
          go_wp2
          go_ret
          exact ⟨by rw [HNS.out, if_neg HD.out.1, if_neg HD.out.2]; rfl, (Below.refl _ _).alloc (Nat.le_refl _) _⟩
  · have HN := Lib.hid h1
    have b1 : ((q.n : Int) != 1) = true := by simp; omega
    rw [hk]
    clear h hk
    go_enter Tryz.func67, Tryz.ntmps67
    go_wp2
    go_ret
    exact ⟨by rw [HNS0.out]; unfold namedS; rw [if_neg HN.out]; rfl, (Below.refl _ _).alloc (Nat.le_refl _) _⟩

theorem rName_any (q : Reqr) (l : List Cse) (w : World) (h : ReqAt w q l) :
    Calls Tryz.prog 67 #[reqV q] w fun e w' => e = .returned (.string (nameS q l)) ∧ Below w.heap.size w w' := by
  rcases (show q.kind = 3 ∨ q.kind = 1 ∨ q.kind = 2 ∨ q.kind = 4 ∨ q.kind = 5 ∨ q.kind = 6 ∨ q.kind = 7 ∨ q.kind = 8 ∨ q.kind = 9 ∨ ¬ (1 ≤ q.kind ∧ q.kind ≤ 9) by omega) with hk | hk | hk | hk | hk | hk | hk | hk | hk | hk
  · exact rName_sel q l w h hk
  · exact rName_k1 q l w hk
  · exact rName_k2 q l w hk
  · exact rName_k4 q l w hk
  · exact rName_k5 q l w hk
  · exact rName_k6 q l w hk
  · exact rName_k7 q l w hk
  · exact rName_k8 q l w hk
  · exact rName_k9 q l w hk
  · exact rName_no q l w hk

end Go.Proofs.YtalkllfgedacoaaGreatDoor

namespace Go.Proofs.YtalkllfgedacoaaGreatDoor
open Go.RowKit Go.Sort

set_option maxHeartbeats 8000000 in
set_option maxRecDepth 100000 in
theorem rsame24_any (p q : Reqr) (l r : List Cse) (w : World) (hn : p.n ≤ 4611686018427387904) (hm : q.n ≤ 4611686018427387904) (hp : ReqAt w p l) (hq : ReqAt w q r) :
    Calls Tryz.prog 70 #[reqV p, reqV q] w fun e w' => e = .returned (.bool (p.kind == q.kind && p.arg == q.arg && p.value == q.value && p.dflt == q.dflt && l == r)) ∧ Below w.heap.size w w' := by
  have HL := Lib.hid hp.len
  have HR := Lib.hid hq.len
  have HP := Lib.hid hp.rd
  have HQ := Lib.hid hq.rd
  clear hp hq
  obtain ⟨k1, a1, v1, d1, A1, n1, c1⟩ := p
  obtain ⟨k2, a2, v2, d2, A2, n2, c2⟩ := q
  unfold reqV
  simp only at HL HR HP HQ hn hm ⊢
  by_cases hall : (k1 == k2 && a1 == a2 && v1 == v2 && d1 == d2) = true ∧ n1 = n2
  · obtain ⟨hall, hnn⟩ := hall
    simp only [Bool.and_eq_true, beq_iff_eq] at hall
    obtain ⟨⟨⟨rfl, rfl⟩, rfl⟩, rfl⟩ := hall
    subst hnn
    have X1 := Lib.hid ((blk_new (w := w) (t := 24) (cs := Reqr.cells ⟨k1, a1, v1, d1, A1, n1, c1⟩) rfl).alloc (.cells (Reqr.cells ⟨k1, a1, v1, d1, A2, n1, c2⟩).toArray 24))
    have X2 := Lib.hid (blk_new (w := w.alloc (.cells (Reqr.cells ⟨k1, a1, v1, d1, A1, n1, c1⟩).toArray 24)) (t := 24) (cs := Reqr.cells ⟨k1, a1, v1, d1, A2, n1, c2⟩) rfl)
    have B0 := Lib.hid (((Below.refl w.heap.size w).alloc (Nat.le_refl _) (.cells (Reqr.cells ⟨k1, a1, v1, d1, A1, n1, c1⟩).toArray 24)).alloc (by simp) (.cells (Reqr.cells ⟨k1, a1, v1, d1, A2, n1, c2⟩).toArray 24))
    rw [World.size_alloc] at X2
    go_enter Tryz.func70, Tryz.ntmps70
    go_wp2
    have hW : RowKit.Hid ((w.alloc (.cells (Reqr.cells ⟨k1, a1, v1, d1, A1, n1, c1⟩).toArray 24)).alloc (.cells (Reqr.cells ⟨k1, a1, v1, d1, A2, n1, c2⟩).toArray 24) = (w.alloc (.cells #[.int .i64 k1, .int .i64 a1, .int .i64 v1, .bool d1, .slice A1 n1 c1] 24)).alloc (.cells #[.int .i64 k1, .int .i64 a1, .int .i64 v1, .bool d1, .slice A2 n1 c2] 24)) := Lib.hid rfl
    rw [hW.out] at X1 X2 B0
    clear hW
    generalize (w.alloc (.cells #[.int .i64 k1, .int .i64 a1, .int .i64 v1, .bool d1, .slice A1 n1 c1] 24)).alloc (.cells #[.int .i64 k1, .int .i64 a1, .int .i64 v1, .bool d1, .slice A2 n1 c2] 24) = W0 at *
    generalize hb1 : w.heap.size = b1 at *
    have HB1 := Lib.hid hb1
    clear hb1
    go_loopw [44] (fun i wr => ∃ k : Nat, k ≤ n1 ∧ i = .int .i64 k ∧ l.take k = r.take k ∧ Below W0.heap.size W0 wr) (fun i _ => n1 - (intOf i).toNat)
    case atStart => exact ⟨0, Nat.zero_le _, rfl, rfl, Below.refl _ _⟩
    case round =>
      obtain ⟨k, hk, rfl, htk, hb⟩ := hrel
      have HBW := Lib.hid hb
      have HTK := Lib.hid htk
      have xx := (X1.out.below hb X1.out.lt).cell (i := 4) rfl
      have yy := (X2.out.below hb X2.out.lt).cell (i := 4) rfl
      have hx1 := (X1.out.below hb X1.out.lt).lt
      have hx2 := (X2.out.below hb X2.out.lt).lt
      have HBZ := Lib.hid (B0.out.trans (hb.mono (by have := B0.out.size; have := HB1.out; omega)))
      clear hb htk
      by_cases hlt : k < n1
      · have hkl : k < l.length := by rw [HL.out]; exact hlt
        have hkr : k < r.length := by rw [HR.out]; exact hlt
        obtain ⟨g1, o1, rfl, hl1, hc1⟩ := HP.out.at_ (by rw [rows_length]; exact Nat.mul_pos (by omega) (by decide))
        obtain ⟨g2, o2, rfl, hl2, hc2⟩ := HQ.out.at_ (by rw [rows_length]; exact Nat.mul_pos (by omega) (by decide))
        have hBW : Below w.heap.size w wr := HB1.out ▸ HBZ.out
        have hd1 : ∀ j v, (rows l)[j]? = some v → wr.cell? ⟨g1, o1 + j, none⟩ = some v := fun j v hj => by
          rw [hBW.cell (p := ⟨g1, o1 + j, none⟩) hl1]; exact hc1 j v hj
        have hd2 : ∀ j v, (rows r)[j]? = some v → wr.cell? ⟨g2, o2 + j, none⟩ = some v := fun j v hj => by
          rw [hBW.cell (p := ⟨g2, o2 + j, none⟩) hl2]; exact hc2 j v hj
        obtain ⟨x0, x1, x2⟩ := cse_cells hd1 hkl rfl
        obtain ⟨y0, y1, y2⟩ := cse_cells hd2 hkr rfl
        have HST := Lib.hid (take_eq_step hkl hkr HTK.out)
        generalize l.getD k Cse.none = x at *
        generalize r.getD k Cse.none = y at *
        have hne := neq_cse x y
        unfold cseV at hne
        clear hc1 hc2 hd1 hd2 hkl hkr hBW
        have q1 : (0 : Int) ≤ (k : Int) := by omega
        have q2 : (k : Int) < (n1 : Int) := by omega
        by_cases hxy : x = y
        · have HXY := Lib.hid (HST.out.2 hxy)
          rw [decide_eq_true hxy] at hne
          clear hxy
          go_wp2
          go_quiet (fail)
          go_wp2
          exact ⟨⟨k + 1, by omega, by go_num, HXY.out, Below.drewN' HBW.out nq⟩, by simp [intOf]; omega⟩
        · have HXY : RowKit.Hid (¬ l = r) := Lib.hid (fun e => hxy (HST.out.1 (by rw [e])))
          rw [decide_eq_false hxy] at hne
          clear hxy
          go_wp2
          go_quiet (fail)
          go_wp2
          go_ret
          exact ⟨by rw [show (l == r) = false from beq_eq_false_iff_ne.2 HXY.out]; simp, Below.drewN' (HB1.out ▸ HBZ.out) nq⟩
      · obtain rfl : k = n1 := by omega
        have HE : RowKit.Hid (l = r) := Lib.hid (by
          have := HTK.out
          rwa [List.take_of_length_le (by rw [HL.out]; exact Nat.le_refl _), List.take_of_length_le (by rw [HR.out]; exact Nat.le_refl _)] at this)
        go_wp2
        go_ret
        exact ⟨by rw [HE.out]; simp, HB1.out ▸ HBZ.out⟩
  · have HE : RowKit.Hid ((k1 == k2 && a1 == a2 && v1 == v2 && d1 == d2 && l == r) = false) := Lib.hid (by
      rw [Bool.eq_false_iff]
      intro e
      rw [Bool.and_eq_true] at e
      refine hall ⟨e.1, ?_⟩
      rw [← HL.out, ← HR.out, beq_iff_eq.1 e.2])
    have B0 := Lib.hid (((Below.refl w.heap.size w).alloc (Nat.le_refl _) (.cells (Reqr.cells ⟨k1, a1, v1, d1, A1, n1, c1⟩).toArray 24)).alloc (by simp) (.cells (Reqr.cells ⟨k2, a2, v2, d2, A2, n2, c2⟩).toArray 24))
    rw [HE.out]
    cases hk : (k1 == k2)
    case false =>
      have hk' : (k1 != k2) = true := by rw [bne, hk]; rfl
      go_enter Tryz.func70, Tryz.ntmps70
      go_wp2
      go_ret
      exact ⟨rfl, B0.out⟩
    case true =>
      have hk' : (k1 != k2) = false := by rw [bne, hk]; rfl
      cases ha : (a1 == a2)
      case false =>
        have ha' : (a1 != a2) = true := by rw [bne, ha]; rfl
        go_enter Tryz.func70, Tryz.ntmps70
        go_wp2
        go_ret
        exact ⟨rfl, B0.out⟩
      case true =>
        have ha' : (a1 != a2) = false := by rw [bne, ha]; rfl
        cases hv : (v1 == v2)
        case false =>
          have hv' : (v1 != v2) = true := by rw [bne, hv]; rfl
          go_enter Tryz.func70, Tryz.ntmps70
          go_wp2
          go_ret
          exact ⟨rfl, B0.out⟩
        case true =>
          have hv' : (v1 != v2) = false := by rw [bne, hv]; rfl
          cases hd : (d1 == d2)
          case false =>
            have hd' : (d1 != d2) = true := by rw [bne, hd]; rfl
            go_enter Tryz.func70, Tryz.ntmps70
            go_wp2
            go_ret
            exact ⟨rfl, B0.out⟩
          case true =>
            have hd' : (d1 != d2) = false := by rw [bne, hd]; rfl
            have hnn : ¬ n1 = n2 := fun e => hall ⟨by rw [hk, ha, hv, hd]; rfl, e⟩
            have hn' : ((n1 : Int) == (n2 : Int)) = false := by rw [beq_eq_false_iff_ne]; omega
            have hn'' : ((n1 : Int) != (n2 : Int)) = true := by rw [bne_iff_ne]; omega
            clear hall
            go_enter Tryz.func70, Tryz.ntmps70
            go_wp2
            go_ret
            exact ⟨rfl, B0.out⟩

end Go.Proofs.YtalkllfgedacoaaGreatDoor
