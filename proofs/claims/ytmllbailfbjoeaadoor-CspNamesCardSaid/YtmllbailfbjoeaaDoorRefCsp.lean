/- The document's Name and Uses of csp, walked: they tell what the program tells. -/
import Derived.Test.YtmllbailfbjoeaaDoorUses
namespace Go.Proofs.YtmllbailfbjoeaaDoor
open Go.RowKit Go.Sort

set_option maxHeartbeats 4000000 in
set_option maxRecDepth 100000 in
theorem rName_no (q : Reqr) (l : List Cse) (w : World) (hk : ¬ (1 ≤ q.kind ∧ q.kind ≤ 9)) :
    Calls Tryd.prog 28 #[reqV q] w fun e w' => e = .returned (.string (nameS q l)) ∧ Below w.heap.size w w' := by
  have HNS : RowKit.Hid (nameS q l = ⟨#[]⟩) := Lib.hid (by unfold nameS; rw [if_neg (by omega), if_neg (by omega), if_neg (by omega), if_neg (by omega), if_neg (by omega), if_neg (by omega), if_neg (by omega), if_neg (by omega), if_neg (by omega)])
  unfold reqV
  by_cases h1 : q.kind < 1
  · clear hk
    go_enter Tryd.func28, Tryd.ntmps28
    go_wp2
    go_ret
    exact ⟨by rw [HNS.out]; rfl, (Below.refl _ _).alloc (Nat.le_refl _) _⟩
  · have h2 : 9 < q.kind := by omega
    clear hk
    go_enter Tryd.func28, Tryd.ntmps28
    go_wp2
    go_ret
    exact ⟨by rw [HNS.out]; rfl, (Below.refl _ _).alloc (Nat.le_refl _) _⟩

set_option maxHeartbeats 4000000 in
set_option maxRecDepth 100000 in
theorem rName_k1 (q : Reqr) (l : List Cse) (w : World) (hk : q.kind = 1) :
    Calls Tryd.prog 28 #[reqV q] w fun e w' => e = .returned (.string (nameS q l)) ∧ Below w.heap.size w w' := by
  have HNS : RowKit.Hid (nameS q l = ⟨#[109, 97, 107, 101]⟩) := Lib.hid (by unfold nameS; rw [if_neg (by omega), if_pos hk])
  unfold reqV
  rw [hk]
  clear hk
  go_enter Tryd.func28, Tryd.ntmps28
  go_wp2
  go_ret
  exact ⟨by rw [HNS.out]; rfl, ((Below.refl _ _).alloc (Nat.le_refl _) _).alloc (by simp) _⟩

set_option maxHeartbeats 4000000 in
set_option maxRecDepth 100000 in
theorem rName_k2 (q : Reqr) (l : List Cse) (w : World) (hk : q.kind = 2) :
    Calls Tryd.prog 28 #[reqV q] w fun e w' => e = .returned (.string (nameS q l)) ∧ Below w.heap.size w w' := by
  have HNS : RowKit.Hid (nameS q l = ⟨#[102, 114, 101, 101]⟩) := Lib.hid (by unfold nameS; rw [if_neg (by omega), if_neg (by omega), if_pos hk])
  unfold reqV
  rw [hk]
  clear hk
  go_enter Tryd.func28, Tryd.ntmps28
  go_wp2
  go_ret
  exact ⟨by rw [HNS.out]; rfl, ((Below.refl _ _).alloc (Nat.le_refl _) _).alloc (by simp) _⟩

set_option maxHeartbeats 4000000 in
set_option maxRecDepth 100000 in
theorem rName_k4 (q : Reqr) (l : List Cse) (w : World) (hk : q.kind = 4) :
    Calls Tryd.prog 28 #[reqV q] w fun e w' => e = .returned (.string (nameS q l)) ∧ Below w.heap.size w w' := by
  have HNS : RowKit.Hid (nameS q l = ⟨#[99, 108, 111, 115, 101]⟩) := Lib.hid (by unfold nameS; rw [if_neg (by omega), if_neg (by omega), if_neg (by omega), if_pos hk])
  unfold reqV
  rw [hk]
  clear hk
  go_enter Tryd.func28, Tryd.ntmps28
  go_wp2
  go_ret
  exact ⟨by rw [HNS.out]; rfl, ((Below.refl _ _).alloc (Nat.le_refl _) _).alloc (by simp) _⟩

set_option maxHeartbeats 4000000 in
set_option maxRecDepth 100000 in
theorem rName_k5 (q : Reqr) (l : List Cse) (w : World) (hk : q.kind = 5) :
    Calls Tryd.prog 28 #[reqV q] w fun e w' => e = .returned (.string (nameS q l)) ∧ Below w.heap.size w w' := by
  have HNS : RowKit.Hid (nameS q l = ⟨#[108, 101, 110]⟩) := Lib.hid (by unfold nameS; rw [if_neg (by omega), if_neg (by omega), if_neg (by omega), if_neg (by omega), if_pos hk])
  unfold reqV
  rw [hk]
  clear hk
  go_enter Tryd.func28, Tryd.ntmps28
  go_wp2
  go_ret
  exact ⟨by rw [HNS.out]; rfl, ((Below.refl _ _).alloc (Nat.le_refl _) _).alloc (by simp) _⟩

set_option maxHeartbeats 4000000 in
set_option maxRecDepth 100000 in
theorem rName_k6 (q : Reqr) (l : List Cse) (w : World) (hk : q.kind = 6) :
    Calls Tryd.prog 28 #[reqV q] w fun e w' => e = .returned (.string (nameS q l)) ∧ Below w.heap.size w w' := by
  have HNS : RowKit.Hid (nameS q l = ⟨#[99, 97, 112]⟩) := Lib.hid (by unfold nameS; rw [if_neg (by omega), if_neg (by omega), if_neg (by omega), if_neg (by omega), if_neg (by omega), if_pos hk])
  unfold reqV
  rw [hk]
  clear hk
  go_enter Tryd.func28, Tryd.ntmps28
  go_wp2
  go_ret
  exact ⟨by rw [HNS.out]; rfl, ((Below.refl _ _).alloc (Nat.le_refl _) _).alloc (by simp) _⟩

set_option maxHeartbeats 4000000 in
set_option maxRecDepth 100000 in
theorem rName_k7 (q : Reqr) (l : List Cse) (w : World) (hk : q.kind = 7) :
    Calls Tryd.prog 28 #[reqV q] w fun e w' => e = .returned (.string (nameS q l)) ∧ Below w.heap.size w w' := by
  have HNS : RowKit.Hid (nameS q l = ⟨#[99, 97, 110, 99, 101, 108]⟩) := Lib.hid (by unfold nameS; rw [if_neg (by omega), if_neg (by omega), if_neg (by omega), if_neg (by omega), if_neg (by omega), if_neg (by omega), if_pos hk])
  unfold reqV
  rw [hk]
  clear hk
  go_enter Tryd.func28, Tryd.ntmps28
  go_wp2
  go_ret
  exact ⟨by rw [HNS.out]; rfl, ((Below.refl _ _).alloc (Nat.le_refl _) _).alloc (by simp) _⟩

set_option maxHeartbeats 4000000 in
set_option maxRecDepth 100000 in
theorem rName_k8 (q : Reqr) (l : List Cse) (w : World) (hk : q.kind = 8) :
    Calls Tryd.prog 28 #[reqV q] w fun e w' => e = .returned (.string (nameS q l)) ∧ Below w.heap.size w w' := by
  have HNS : RowKit.Hid (nameS q l = ⟨#[112, 117, 116]⟩) := Lib.hid (by unfold nameS; rw [if_neg (by omega), if_neg (by omega), if_neg (by omega), if_neg (by omega), if_neg (by omega), if_neg (by omega), if_neg (by omega), if_pos hk])
  unfold reqV
  rw [hk]
  clear hk
  go_enter Tryd.func28, Tryd.ntmps28
  go_wp2
  go_ret
  exact ⟨by rw [HNS.out]; rfl, ((Below.refl _ _).alloc (Nat.le_refl _) _).alloc (by simp) _⟩

set_option maxHeartbeats 4000000 in
set_option maxRecDepth 100000 in
theorem rName_k9 (q : Reqr) (l : List Cse) (w : World) (hk : q.kind = 9) :
    Calls Tryd.prog 28 #[reqV q] w fun e w' => e = .returned (.string (nameS q l)) ∧ Below w.heap.size w w' := by
  have HNS : RowKit.Hid (nameS q l = ⟨#[116, 97, 107, 101]⟩) := Lib.hid (by unfold nameS; rw [if_neg (by omega), if_neg (by omega), if_neg (by omega), if_neg (by omega), if_neg (by omega), if_neg (by omega), if_neg (by omega), if_neg (by omega), if_pos hk])
  unfold reqV
  rw [hk]
  clear hk
  go_enter Tryd.func28, Tryd.ntmps28
  go_wp2
  go_ret
  exact ⟨by rw [HNS.out]; rfl, ((Below.refl _ _).alloc (Nat.le_refl _) _).alloc (by simp) _⟩

theorem try_send (d : Bool) : tryS d ++ ⟨#[115, 101, 110, 100]⟩ = (if d then ⟨#[116, 114, 121]⟩ ++ ⟨#[115, 101, 110, 100]⟩ else ⟨#[115, 101, 110, 100]⟩ : ByteArray) := by cases d <;> decide +kernel
theorem try_recv (d : Bool) : tryS d ++ ⟨#[114, 101, 99, 118]⟩ = (if d then ⟨#[116, 114, 121]⟩ ++ ⟨#[114, 101, 99, 118]⟩ else ⟨#[114, 101, 99, 118]⟩ : ByteArray) := by cases d <;> decide +kernel

set_option maxHeartbeats 4000000 in
set_option maxRecDepth 100000 in
theorem rName_sel (q : Reqr) (l : List Cse) (w : World) (h : ReqAt w q l) (hk : q.kind = 3) :
    Calls Tryd.prog 28 #[reqV q] w fun e w' => e = .returned (.string (nameS q l)) ∧ Below w.heap.size w w' := by
  have HNS0 : RowKit.Hid (nameS q l = namedS q l) := Lib.hid (by unfold nameS; rw [if_pos hk])
  unfold reqV
  by_cases h1 : q.n = 1
  · obtain ⟨b, o, hA, hbl, hc⟩ := h.rd.at_ (by rw [rows_length, h.len, h1]; decide)
    have hxx : l.getD 0 Cse.none = l.getD 0 Cse.none := rfl
    obtain ⟨c0, _, _⟩ := cse_cells hc (k := 0) (by rw [h.len, h1]; decide) hxx
    simp only [Nat.zero_mul, Nat.add_zero] at c0
    have c0' : ∀ ob, (w.alloc ob).cell? ⟨b, o, none⟩ = some (.int .i64 (l.getD 0 Cse.none).dir) := fun ob => by rw [World.cell?_alloc_lt _ _ _ (by exact hbl)]; exact c0
    have HNS : RowKit.Hid (nameS q l = if (l.getD 0 Cse.none).dir = 1 then tryS q.dflt ++ ⟨#[115, 101, 110, 100]⟩ else if (l.getD 0 Cse.none).dir = 2 then tryS q.dflt ++ ⟨#[114, 101, 99, 118]⟩ else selS) := Lib.hid (by rw [HNS0.out]; unfold namedS; rw [if_pos h1])
    generalize (l.getD 0 Cse.none).dir = d at *
    clear h hxx hc HNS0
    rw [hA, h1, hk]
    clear hk h1
    have hne : ¬ b = w.heap.size := by omega
    by_cases d1 : d = 1
    · have HF : RowKit.Hid (nameS q l = (if q.dflt then ⟨#[116, 114, 121]⟩ ++ ⟨#[115, 101, 110, 100]⟩ else ⟨#[115, 101, 110, 100]⟩ : ByteArray)) := Lib.hid (by rw [HNS.out, if_pos d1, try_send])
      subst d1
      clear HNS
      cases hd : q.dflt
      all_goals
        rw [hd] at HF
        go_enter Tryd.func28, Tryd.ntmps28
        go_wp2
        go_ret
        exact ⟨by rw [HF.out]; rfl, (Below.refl _ _).alloc (Nat.le_refl _) _⟩
    · by_cases d2 : d = 2
      · have HF : RowKit.Hid (nameS q l = (if q.dflt then ⟨#[116, 114, 121]⟩ ++ ⟨#[114, 101, 99, 118]⟩ else ⟨#[114, 101, 99, 118]⟩ : ByteArray)) := Lib.hid (by rw [HNS.out, if_neg d1, if_pos d2, try_recv])
        subst d2
        clear HNS
        cases hd : q.dflt
        all_goals
          rw [hd] at HF
          go_enter Tryd.func28, Tryd.ntmps28
          go_wp2
          go_ret
          exact ⟨by rw [HF.out]; rfl, (Below.refl _ _).alloc (Nat.le_refl _) _⟩
      · have HD := Lib.hid (And.intro d1 d2)
        by_cases d3 : d < 1
        · clear d1 d2
          go_enter Tryd.func28, Tryd.ntmps28
          go_wp2
          go_ret
          exact ⟨by rw [HNS.out, if_neg HD.out.1, if_neg HD.out.2]; rfl, (Below.refl _ _).alloc (Nat.le_refl _) _⟩
        · have d4 : 2 < d := by omega
          clear d1 d2
          go_enter Tryd.func28, Tryd.ntmps28
          go_wp2
          go_ret
          exact ⟨by rw [HNS.out, if_neg HD.out.1, if_neg HD.out.2]; rfl, (Below.refl _ _).alloc (Nat.le_refl _) _⟩
  · have HN := Lib.hid h1
    have b1 : ((q.n : Int) != 1) = true := by simp; omega
    rw [hk]
    clear h hk
    go_enter Tryd.func28, Tryd.ntmps28
    go_wp2
    go_ret
    exact ⟨by rw [HNS0.out]; unfold namedS; rw [if_neg HN.out]; rfl, (Below.refl _ _).alloc (Nat.le_refl _) _⟩

theorem rName_any (q : Reqr) (l : List Cse) (w : World) (h : ReqAt w q l) :
    Calls Tryd.prog 28 #[reqV q] w fun e w' => e = .returned (.string (nameS q l)) ∧ Below w.heap.size w w' := by
  rcases (show q.kind = 3 ∨ q.kind = 1 ∨ q.kind = 2 ∨ q.kind = 4 ∨ q.kind = 5 ∨ q.kind = 6 ∨ q.kind = 7 ∨ q.kind = 8 ∨ q.kind = 9 ∨ ¬ (1 ≤ q.kind ∧ q.kind ≤ 9) by omega) with hk | hk | hk | hk | hk | hk | hk | hk | hk | hk
  · exact rName_sel q l w h hk
  · exact rName_k1 q l w hk
  · exact rName_k2 q l w hk
  · exact rName_k4 q l w hk
  · exact rName_k5 q l w hk
  · exact rName_k6 q l w hk
  · exact rName_k7 q l w hk
  · exact rName_k8 q l w hk
  · exact rName_k9 q l w hk
  · exact rName_no q l w hk

set_option maxHeartbeats 4000000 in
set_option maxRecDepth 100000 in
theorem rUses_one (q : Reqr) (l : List Cse) (w : World) (hk : q.kind = 2 ∨ 4 ≤ q.kind ∧ q.kind ≤ 6) :
    Calls Tryd.prog 31 #[reqV q] w (RetIntsO (usesS q l) w) := by
  have HU : RowKit.Hid (usesS q l = [q.arg]) := Lib.hid (by unfold usesS; rw [if_neg (by omega), if_pos hk])
  rw [HU.out]
  clear HU
  unfold reqV
  have hk' : q.kind = 2 ∨ q.kind = 4 ∨ q.kind = 5 ∨ q.kind = 6 := by omega
  clear hk
  rcases hk' with hk | hk | hk | hk
  all_goals
    rw [hk]
    clear hk
    go_enter Tryd.func31, Tryd.ntmps31
    go_wp2
    go_ret
    exact ⟨some ⟨w.heap.size + 1, 0, none⟩, 1, rfl, own_blk1 (cs := ints [q.arg]) (blk_new (by simp)) (by omega) rfl (by simp [maxLen]), ((Below.refl _ _).alloc (Nat.le_refl _) _).alloc (by simp) _⟩

set_option maxHeartbeats 4000000 in
set_option maxRecDepth 100000 in
theorem rUses_none (q : Reqr) (l : List Cse) (w : World) (hk : ¬ (q.kind = 2 ∨ 4 ≤ q.kind ∧ q.kind ≤ 6)) (hk3 : q.kind ≠ 3) :
    Calls Tryd.prog 31 #[reqV q] w (RetIntsO (usesS q l) w) := by
  have HU : RowKit.Hid (usesS q l = []) := Lib.hid (by unfold usesS; rw [if_neg hk3, if_neg hk])
  rw [HU.out]
  clear HU
  unfold reqV
  have b2 : (q.kind == 2) = false := by simp; omega
  have b3 : (q.kind != 3) = true := by simp; omega
  by_cases h4 : 4 ≤ q.kind
  · have h6 : 6 < q.kind := by omega
    clear hk hk3
    go_enter Tryd.func31, Tryd.ntmps31
    go_wp2
    go_ret
    exact ⟨none, 0, rfl, own_nil _ _ _ _, (Below.refl _ _).alloc (Nat.le_refl _) _⟩
  · clear hk hk3
    go_enter Tryd.func31, Tryd.ntmps31
    go_wp2
    go_ret
    exact ⟨none, 0, rfl, own_nil _ _ _ _, (Below.refl _ _).alloc (Nat.le_refl _) _⟩

theorem any_take_succ (l : List Cse) (p : Cse → Bool) {m : Nat} (h : m < l.length) : (l.take (m + 1)).any p = ((l.take m).any p || p (l.getD m Cse.none)) := by
  rw [List.take_succ_eq_append_getElem h, List.any_append]
  simp [List.getD, h]

set_option maxHeartbeats 8000000 in
set_option maxRecDepth 100000 in
theorem rUses_sel (q : Reqr) (l : List Cse) (w : World) (h : ReqAt w q l) (hcap : q.n ≤ q.c) (hn : l.length * 24 ≤ 140737488355328) (hk : q.kind = 3) :
    Calls Tryd.prog 31 #[reqV q] w (RetIntsO (usesS q l) w) := by
  have HU : RowKit.Hid (usesS q l = usesTo l l.length) := Lib.hid (by unfold usesS; rw [if_pos hk])
  rw [HU.out]
  clear HU
  have HR := Lib.hid h.rd
  have hlen := h.len
  obtain ⟨kind, arg, value, dflt, A, n, c⟩ := q
  unfold reqV
  simp only at hk hlen HR hcap ⊢
  subst hk
  rw [hlen] at hn ⊢
  have HLN := Lib.hid hlen
  clear h hlen
  have HBX := Lib.hid (Blk.new w 24 (Reqr.cells ⟨3, arg, value, dflt, A, n, c⟩))
  go_enter Tryd.func31, Tryd.ntmps31
  go_wp2
  go_loopg [3, 32] n (fun g v i wr => ∃ (k : Nat) (V : Option Addr) (cv : Nat), k ≤ n ∧ g = n - k ∧ i = .int .i64 k ∧ v = .slice V (usesTo l k).length cv ∧ wr.ownsRow (w.heap.size + 1) 3 1 (.slice V (usesTo l k).length cv) (usesTo l k).length (ints (usesTo l k)) ∧ Below (w.heap.size + 1) (w.alloc (.cells #[.int .i64 3, .int .i64 arg, .int .i64 value, .bool dflt, .slice A n c] 24)) wr)
  case atStart => exact ⟨0, none, 0, Nat.zero_le _, rfl, rfl, rfl, own_nil _ _ _ _, Below.refl _ _⟩
  case round =>
    obtain ⟨k, V, cv, hk, hg, rfl, rfl, hown, hb⟩ := hrel
    have HG := Lib.hid hg
    have HB := Lib.hid hb
    have HOWN := Lib.hid hown
    have hul := usesTo_len l k
    have hsz : w.heap.size + 1 ≤ wr.heap.size := by have := hb.size; simpa using this
    have hbx : Blk wr w.heap.size 24 (Reqr.cells ⟨3, arg, value, dflt, A, n, c⟩) := HBX.out.below hb (by omega)
    obtain ⟨_, _, _, _, x4⟩ := reqBox hbx
    simp only at x4
    have HWB := Lib.hid (show Below w.heap.size w wr from ((Below.refl _ _).alloc (Nat.le_refl _) _).trans (hb.mono (by omega)))
    clear hg hb hown hbx
    by_cases hlt : k < n
    · have hkl : k < l.length := by rw [HLN.out]; exact hlt
      obtain ⟨b, o, rfl, hbl, hc⟩ := HR.out.at_ (by rw [rows_length]; exact Nat.mul_pos (by omega) (by decide))
      have hcr : ∀ W, Below w.heap.size w W → ∀ j v, (rows l)[j]? = some v → W.cell? ⟨b, o + j, none⟩ = some v := fun W hW j v hj => by
        rw [hW.cell (p := ⟨b, o + j, none⟩) hbl]; exact hc j v hj
      have HCR := Lib.hid hcr
      obtain ⟨c0, c1, c2⟩ := cse_cells (hcr wr HWB.out) hkl rfl
      have HSTEP : RowKit.Hid (usesTo l (k + 1) = addH (usesTo l k) (l.getD k Cse.none).handle) := Lib.hid rfl
      have HHAS := Lib.hid (usesTo_has l (l.getD k Cse.none).handle k (by omega))
      generalize l.getD k Cse.none = x at *
      have hxh : usesTo l k = usesTo l k := rfl
      generalize hus0 : usesTo l k = us at *
      generalize hus : us.length = un at *
      have HUS := Lib.hid hus
      clear hc hcr hkl hus hxh
      have hlt0 : w.heap.size < wr.heap.size := by omega
      have x4' : ∀ ob, (wr.alloc ob).cell? ⟨w.heap.size, 4, none⟩ = some (.slice (some ⟨b, o, none⟩) n c) := fun ob => by rw [World.cell?_alloc_lt _ _ _ (by exact hlt0)]; exact x4
      have q1 : (0 : Int) ≤ (k : Int) := by omega
      have q2 : (k : Int) < (n : Int) := by omega
      have q3 : (k : Int) ≤ (c : Int) := by omega
      go_wp2
      have HY := Lib.hid (show Blk (wr.alloc (.cells #[.int .i64 x.dir, .int .i64 x.handle, .int .i64 x.value] 37)) wr.heap.size 37 x.cells from Blk.new wr _ x.cells)
      have HB1 := Lib.hid (HB.out.alloc hsz (.cells #[.int .i64 x.dir, .int .i64 x.handle, .int .i64 x.value] 37))
      have HWB1 := Lib.hid (HWB.out.alloc HWB.out.size (.cells #[.int .i64 x.dir, .int .i64 x.handle, .int .i64 x.value] 37))
      have HO1 := Lib.hid (HOWN.out.alloc (.cells #[.int .i64 x.dir, .int .i64 x.handle, .int .i64 x.value] 37))
      have hs1 : wr.heap.size < (wr.alloc (.cells #[.int .i64 x.dir, .int .i64 x.handle, .int .i64 x.value] 37)).heap.size := by simp
      have HS1 := Lib.hid hs1
      clear x4 x4' c0 c1 c2 hs1 HB HWB HOWN hlt0
      generalize hwo : wr.alloc (.cells #[.int .i64 x.dir, .int .i64 x.handle, .int .i64 x.value] 37) = wo at *
      clear hwo
      generalize hrb : wr.heap.size = rb at *
      clear hrb
      have hsr := HS1.out
      go_loopg [6, 42] k (fun g s j wi => ∃ m : Nat, m ≤ k ∧ g = k - m ∧ j = .int .i64 m ∧ s = .bool ((l.take m).any (fun a => a.handle == x.handle)) ∧ Below wo.heap.size wo wi)
      case atStart => exact ⟨0, Nat.zero_le _, rfl, rfl, by simp, Below.refl _ _⟩
      case round =>
        obtain ⟨m, hm, hgm, rfl, rfl, hbi⟩ := hrel
        have HGM := Lib.hid hgm
        have HBI := Lib.hid hbi
        have HWI := Lib.hid (HWB1.out.trans (hbi.mono HWB1.out.size))
        have hy := HY.out.below hbi HS1.out
        have y1 : wr.cell? ⟨rb, 1, none⟩ = some (.int .i64 x.handle) := hy.cell rfl
        have hlt1 : rb < wr.heap.size := hy.lt
        have y1' : ∀ ob, (wr.alloc ob).cell? ⟨rb, 1, none⟩ = some (.int .i64 x.handle) := fun ob => by rw [World.cell?_alloc_lt _ _ _ (by exact hlt1)]; exact y1
        clear hgm hbi hy
        by_cases hlm : m < k
        · have hml : m < l.length := by rw [HLN.out]; omega
          obtain ⟨c0, c1, c2⟩ := cse_cells (HCR.out wr HWI.out) hml rfl
          have HANY := Lib.hid (any_take_succ l (fun a => a.handle == x.handle) hml)
          generalize l.getD m Cse.none = y at *
          generalize (l.take m).any (fun a => a.handle == x.handle) = seen at *
          have q4 : (0 : Int) ≤ (m : Int) := by omega
          have q5 : (m : Int) < (k : Int) := by omega
          clear hml
          cases seen
          all_goals
            cases hyx : (y.handle == x.handle)
            all_goals
              go_wp2
              go_roundg (k - (m + 1))
              case measure => rw [HGM.out]; omega
              case rel => exact ⟨m + 1, by omega, rfl, by go_num, by rw [HANY.out, hyx]; rfl, HBI.out.alloc HBI.out.size _⟩
        · obtain rfl : m = k := by omega
          have HOI := Lib.hid (own_below HO1.out HBI.out)
          have HBF := Lib.hid (HB1.out.trans (HBI.out.mono (by have := HB1.out.size; simp at this; omega)))
          rw [← HHAS.out]
          cases hct : us.contains x.handle
          · have HE : RowKit.Hid (usesTo l (m + 1) = us ++ [x.handle]) := Lib.hid (by rw [HSTEP.out, addH, hct]; rfl)
            clear hct
            go_wp2_with (at_builtin; refine wpList_app rfl (.tmp 57) (.tmp 60) 49 3 rfl (w.heap.size + 1) (.int .i64 0) 1 8 Tryd.underlying49 int_info rfl (by decide) V un cv (ints us) rfl (HOI.out.alloc _) (some ⟨wr.heap.size, 0, none⟩) 1 1 (ints [x.handle]) rfl (by simp) rfl (blk_new (by simp)).rd (ints_one _) (un + 1) rfl (ints (us ++ [x.handle])) (by simp [ints]) (by unfold maxLen; omega) (by omega) (by simp; omega) ?_; intro V3 cv3 w3 hown3 hg3 hb3)
            go_roundg (n - (m + 1))
            case measure => rw [HG.out]; omega
            case rel =>
              refine ⟨m + 1, V3, cv3, by omega, rfl, by go_num, ?_, ?_, (HBF.out.alloc (by have := HBF.out.size; simpa using this) _).trans hb3⟩
              · rw [HE.out]; simp [HUS.out]
              · rw [HE.out]
                simp only [List.length_append, List.length_cons, List.length_nil, HUS.out]
                exact hown3
          · have HE : RowKit.Hid (usesTo l (m + 1) = us) := Lib.hid (by rw [HSTEP.out, addH, hct]; rfl)
            clear hct
            go_wp2
            go_roundg (n - (m + 1))
            case measure => rw [HG.out]; omega
            case rel =>
              refine ⟨m + 1, V, cv, by omega, rfl, by go_num, ?_, ?_, HBF.out⟩
              · rw [HE.out, HUS.out]
              · rw [HE.out, HUS.out]; exact HOI.out
    · obtain rfl : k = n := by omega
      go_wp2
      go_ret
      exact ⟨V, cv, rfl, own_lower HOWN.out (by omega), HWB.out⟩

theorem rUses_any (q : Reqr) (l : List Cse) (w : World) (h : ReqAt w q l) (hcap : q.n ≤ q.c) (hn : l.length * 24 ≤ 140737488355328) :
    Calls Tryd.prog 31 #[reqV q] w (RetIntsO (usesS q l) w) := by
  by_cases hk : q.kind = 2 ∨ 4 ≤ q.kind ∧ q.kind ≤ 6
  · exact rUses_one q l w hk
  · by_cases h3 : q.kind = 3
    · exact rUses_sel q l w h hcap hn h3
    · exact rUses_none q l w hk h3

end Go.Proofs.YtmllbailfbjoeaaDoor
