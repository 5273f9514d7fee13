/- code: rows of words, and of results' words, behind what is there: walked. -/
import Derived.Test.YtieglgahfeecbaaGreatDoorA4
import Derived.Test.YtieglgahfeecbaaGreatDoorA2
import Derived.Test.YtieglgahfeecbaaGreatDoorA3
import Derived.Test.YtieglgahfeecbaaGreatDoorA1
import Derived.IntWalk
import Derived.BigQuiet
import Derived.OwnWalk
import Derived.Laws.Bits64b
namespace Go.Proofs.YtieglgahfeecbaaGreatDoor
open Go.RowKit Go.Sort

set_option maxHeartbeats 400000 in
set_option maxRecDepth 100000 in
theorem IndexC_any (A : Option Addr) (c : Nat) (l : List Cse) (f : FuncId) (caps : Array Value) (p : Cse → Bool) (w : World) (hl : l.length ≤ maxLen)
    (hR : Rd w A (rows l)) (hf : Enters f) (hp : AsksV cseV w f caps p l) :
    Calls Tryz.prog 213 #[.slice A l.length c, .func (.func f) #[] caps] w fun e w' => e = .returned (.int .i64 (firstV p l 0)) ∧ Below w.heap.size w w' := by
  unfold maxLen at hl
  have HR := Lib.hid hR
  have HP := Lib.hid hp
  clear hR hp
  generalize hn : l.length = n at hl ⊢
  have HN := Lib.hid hn
  clear hn
  go_enter Tryz.func213, Tryz.ntmps213
  go_wp2
  go_loopw [8] (fun i wr => ∃ k : Nat, k ≤ n ∧ i = .int .i64 k ∧ Below w.heap.size w wr ∧ ∀ j, j < k → p (l.getD j Cse.none) = false) (fun i _ => n - (intOf i).toNat)
  case atStart => exact ⟨0, Nat.zero_le _, rfl, Below.refl _ _, fun j hj => absurd hj (by omega)⟩
  case round =>
    obtain ⟨k, hk, rfl, hb, hno⟩ := hrel
    have HNO := Lib.hid hno
    clear hno
    by_cases hlt : k < n
    · have hkl : k < l.length := by rw [HN.out]; exact hlt
      obtain ⟨b, o, rfl, hbl, hc⟩ := HR.out.at_ (by rw [rows_length]; simp only [Cellful.s]; omega)
      have hcr : ∀ j v, (rows l)[j]? = some v → wr.cell? ⟨b, o + j, none⟩ = some v := fun j v hj => by
        rw [hb.cell (p := ⟨b, o + j, none⟩) hbl]; exact hc j v hj
      have HC := Lib.hid hc
      clear hc
      have hmem : l.getD k Cse.none ∈ l := by simp [hkl]
      generalize hx : l.getD k Cse.none = x at hmem
      obtain ⟨c0, c1, c2⟩ := cse_cells hcr hkl hx
      have HX := Lib.hid hx
      clear hx hkl hcr
      have hcall := HP.out x hmem wr hb
      have HCALL := Lib.hid hcall
      clear hcall hmem
      have hrun := hf (#[cseV x] ++ caps) wr
      unfold cseV at hrun
      by_cases hpx : p x = true
      · go_wp2_with (first | (refine HCALL.out.mono ?_; rintro e w1 ⟨rfl, hb1⟩))
        go_ret
        exact ⟨ret_int (by rw [firstV_hit Cse.none l 0 k (by rw [HN.out]; exact hlt) HNO.out (by rw [HX.out]; exact hpx)]; simp), hb.trans (hb1.mono hb.size)⟩
      · simp only [Bool.not_eq_true] at hpx
        go_wp2_with (first | (refine HCALL.out.mono ?_; rintro e w1 ⟨rfl, hb1⟩))
        go_roundw
        case rel =>
          refine ⟨k + 1, by omega, by go_num, hb.trans (hb1.mono hb.size), fun j hj => ?_⟩
          by_cases hjk : j = k
          · subst hjk; rw [HX.out]; exact hpx
          · exact HNO.out j (by omega)
        case measure => simp [intOf]; omega
    · go_wp2
      go_ret
      refine ⟨ret_int ?_, hb⟩
      rw [firstV_none l 0 (fun x hx => ?_)]
      obtain ⟨j, hj, rfl⟩ := List.getElem_of_mem hx
      have := HNO.out j (by have := HN.out; omega)
      simpa [List.getD, hj] using this

set_option maxHeartbeats 400000 in
theorem HasC_any (A : Option Addr) (c : Nat) (l : List Cse) (f : FuncId) (caps : Array Value) (p : Cse → Bool) (w : World) (hl : l.length ≤ maxLen)
    (hR : Rd w A (rows l)) (hf : Enters f) (hp : AsksV cseV w f caps p l) :
    Calls Tryz.prog 218 #[.slice A l.length c, .func (.func f) #[] caps] w fun e w' => e = .returned (.bool (l.any p)) ∧ Below w.heap.size w w' := by
  have HI := Lib.hid (IndexC_any A c l f caps p w hl hR hf hp)
  have hlo := firstV_lo (p := p) l 0
  have HL := Lib.hid hlo
  clear hR hp hf hl hlo
  by_cases h : 0 ≤ firstV p l 0
  all_goals
    go_enter Tryz.func218, Tryz.ntmps218
    go_wp2_with (first | (refine HI.out.mono ?_; rintro e w1 ⟨rfl, hb1⟩))
    go_ret
    refine ⟨ret_bool ?_, hb1⟩
    have e := HL.out.2
    first | exact (e.1 h).symm | (rw [Bool.eq_iff_iff, decide_eq_true_iff]; exact e) | (rw [eq_comm, Bool.eq_false_iff]; exact fun h' => h (e.2 h'))

set_option maxHeartbeats 400000 in
set_option maxRecDepth 100000 in
theorem IndexCh_any (A : Option Addr) (c : Nat) (l : List Chn) (f : FuncId) (caps : Array Value) (p : Chn → Bool) (w : World) (hl : l.length ≤ maxLen)
    (hR : Rd w A (rows l)) (hf : Enters f) (hp : AsksV chnV w f caps p l) :
    Calls Tryz.prog 144 #[.slice A l.length c, .func (.func f) #[] caps] w fun e w' => e = .returned (.int .i64 (firstV p l 0)) ∧ Below w.heap.size w w' := by
  unfold maxLen at hl
  have HR := Lib.hid hR
  have HP := Lib.hid hp
  clear hR hp
  generalize hn : l.length = n at hl ⊢
  have HN := Lib.hid hn
  clear hn
  go_enter Tryz.func144, Tryz.ntmps144
  go_wp2
  go_loopw [8] (fun i wr => ∃ k : Nat, k ≤ n ∧ i = .int .i64 k ∧ Below w.heap.size w wr ∧ ∀ j, j < k → p (l.getD j Chn.none) = false) (fun i _ => n - (intOf i).toNat)
  case atStart => exact ⟨0, Nat.zero_le _, rfl, Below.refl _ _, fun j hj => absurd hj (by omega)⟩
  case round =>
    obtain ⟨k, hk, rfl, hb, hno⟩ := hrel
    have HNO := Lib.hid hno
    clear hno
    by_cases hlt : k < n
    · have hkl : k < l.length := by rw [HN.out]; exact hlt
      obtain ⟨b, o, rfl, hbl, hc⟩ := HR.out.at_ (by rw [rows_length]; simp only [Cellful.s]; omega)
      have hcr : ∀ j v, (rows l)[j]? = some v → wr.cell? ⟨b, o + j, none⟩ = some v := fun j v hj => by
        rw [hb.cell (p := ⟨b, o + j, none⟩) hbl]; exact hc j v hj
      have HC := Lib.hid hc
      clear hc
      have hmem : l.getD k Chn.none ∈ l := by simp [hkl]
      generalize hx : l.getD k Chn.none = x at hmem
      obtain ⟨c0, c1, c2, c3, c4⟩ := chn_cells hcr hkl hx
      have HX := Lib.hid hx
      clear hx hkl hcr
      have hcall := HP.out x hmem wr hb
      have HCALL := Lib.hid hcall
      clear hcall hmem
      have hrun := hf (#[chnV x] ++ caps) wr
      unfold chnV at hrun
      by_cases hpx : p x = true
      · go_wp2_with (first | (refine HCALL.out.mono ?_; rintro e w1 ⟨rfl, hb1⟩))
        go_ret
        exact ⟨ret_int (by rw [firstV_hit Chn.none l 0 k (by rw [HN.out]; exact hlt) HNO.out (by rw [HX.out]; exact hpx)]; simp), hb.trans (hb1.mono hb.size)⟩
      · simp only [Bool.not_eq_true] at hpx
        go_wp2_with (first | (refine HCALL.out.mono ?_; rintro e w1 ⟨rfl, hb1⟩))
        go_roundw
        case rel =>
          refine ⟨k + 1, by omega, by go_num, hb.trans (hb1.mono hb.size), fun j hj => ?_⟩
          by_cases hjk : j = k
          · subst hjk; rw [HX.out]; exact hpx
          · exact HNO.out j (by omega)
        case measure => simp [intOf]; omega
    · go_wp2
      go_ret
      refine ⟨ret_int ?_, hb⟩
      rw [firstV_none l 0 (fun x hx => ?_)]
      obtain ⟨j, hj, rfl⟩ := List.getElem_of_mem hx
      have := HNO.out j (by have := HN.out; omega)
      simpa [List.getD, hj] using this

set_option maxHeartbeats 400000 in
theorem HasCh_any (A : Option Addr) (c : Nat) (l : List Chn) (f : FuncId) (caps : Array Value) (p : Chn → Bool) (w : World) (hl : l.length ≤ maxLen)
    (hR : Rd w A (rows l)) (hf : Enters f) (hp : AsksV chnV w f caps p l) :
    Calls Tryz.prog 109 #[.slice A l.length c, .func (.func f) #[] caps] w fun e w' => e = .returned (.bool (l.any p)) ∧ Below w.heap.size w w' := by
  have HI := Lib.hid (IndexCh_any A c l f caps p w hl hR hf hp)
  have hlo := firstV_lo (p := p) l 0
  have HL := Lib.hid hlo
  clear hR hp hf hl hlo
  by_cases h : 0 ≤ firstV p l 0
  all_goals
    go_enter Tryz.func109, Tryz.ntmps109
    go_wp2_with (first | (refine HI.out.mono ?_; rintro e w1 ⟨rfl, hb1⟩))
    go_ret
    refine ⟨ret_bool ?_, hb1⟩
    have e := HL.out.2
    first | exact (e.1 h).symm | (rw [Bool.eq_iff_iff, decide_eq_true_iff]; exact e) | (rw [eq_comm, Bool.eq_false_iff]; exact fun h' => h (e.2 h'))

set_option maxHeartbeats 400000 in
set_option maxRecDepth 100000 in
theorem IndexWt_any (A : Option Addr) (c : Nat) (l : List Wtr) (f : FuncId) (caps : Array Value) (p : Wtr → Bool) (w : World) (hl : l.length ≤ maxLen)
    (hR : Rd w A (rows l)) (hf : Enters f) (hp : AsksV wtrV w f caps p l) :
    Calls Tryz.prog 145 #[.slice A l.length c, .func (.func f) #[] caps] w fun e w' => e = .returned (.int .i64 (firstV p l 0)) ∧ Below w.heap.size w w' := by
  unfold maxLen at hl
  have HR := Lib.hid hR
  have HP := Lib.hid hp
  clear hR hp
  generalize hn : l.length = n at hl ⊢
  have HN := Lib.hid hn
  clear hn
  go_enter Tryz.func145, Tryz.ntmps145
  go_wp2
  go_loopw [8] (fun i wr => ∃ k : Nat, k ≤ n ∧ i = .int .i64 k ∧ Below w.heap.size w wr ∧ ∀ j, j < k → p (l.getD j Wtr.none) = false) (fun i _ => n - (intOf i).toNat)
  case atStart => exact ⟨0, Nat.zero_le _, rfl, Below.refl _ _, fun j hj => absurd hj (by omega)⟩
  case round =>
    obtain ⟨k, hk, rfl, hb, hno⟩ := hrel
    have HNO := Lib.hid hno
    clear hno
    by_cases hlt : k < n
    · have hkl : k < l.length := by rw [HN.out]; exact hlt
      obtain ⟨b, o, rfl, hbl, hc⟩ := HR.out.at_ (by rw [rows_length]; simp only [Cellful.s]; omega)
      have hcr : ∀ j v, (rows l)[j]? = some v → wr.cell? ⟨b, o + j, none⟩ = some v := fun j v hj => by
        rw [hb.cell (p := ⟨b, o + j, none⟩) hbl]; exact hc j v hj
      have HC := Lib.hid hc
      clear hc
      have hmem : l.getD k Wtr.none ∈ l := by simp [hkl]
      generalize hx : l.getD k Wtr.none = x at hmem
      obtain ⟨c0, c1, c2, c3⟩ := wtr_cells hcr hkl hx
      have HX := Lib.hid hx
      clear hx hkl hcr
      have hcall := HP.out x hmem wr hb
      have HCALL := Lib.hid hcall
      clear hcall hmem
      have hrun := hf (#[wtrV x] ++ caps) wr
      unfold wtrV at hrun
      by_cases hpx : p x = true
      · go_wp2_with (first | (refine HCALL.out.mono ?_; rintro e w1 ⟨rfl, hb1⟩))
        go_ret
        exact ⟨ret_int (by rw [firstV_hit Wtr.none l 0 k (by rw [HN.out]; exact hlt) HNO.out (by rw [HX.out]; exact hpx)]; simp), hb.trans (hb1.mono hb.size)⟩
      · simp only [Bool.not_eq_true] at hpx
        go_wp2_with (first | (refine HCALL.out.mono ?_; rintro e w1 ⟨rfl, hb1⟩))
        go_roundw
        case rel =>
          refine ⟨k + 1, by omega, by go_num, hb.trans (hb1.mono hb.size), fun j hj => ?_⟩
          by_cases hjk : j = k
          · subst hjk; rw [HX.out]; exact hpx
          · exact HNO.out j (by omega)
        case measure => simp [intOf]; omega
    · go_wp2
      go_ret
      refine ⟨ret_int ?_, hb⟩
      rw [firstV_none l 0 (fun x hx => ?_)]
      obtain ⟨j, hj, rfl⟩ := List.getElem_of_mem hx
      have := HNO.out j (by have := HN.out; omega)
      simpa [List.getD, hj] using this

set_option maxHeartbeats 400000 in
theorem HasWt_any (A : Option Addr) (c : Nat) (l : List Wtr) (f : FuncId) (caps : Array Value) (p : Wtr → Bool) (w : World) (hl : l.length ≤ maxLen)
    (hR : Rd w A (rows l)) (hf : Enters f) (hp : AsksV wtrV w f caps p l) :
    Calls Tryz.prog 112 #[.slice A l.length c, .func (.func f) #[] caps] w fun e w' => e = .returned (.bool (l.any p)) ∧ Below w.heap.size w w' := by
  have HI := Lib.hid (IndexWt_any A c l f caps p w hl hR hf hp)
  have hlo := firstV_lo (p := p) l 0
  have HL := Lib.hid hlo
  clear hR hp hf hl hlo
  by_cases h : 0 ≤ firstV p l 0
  all_goals
    go_enter Tryz.func112, Tryz.ntmps112
    go_wp2_with (first | (refine HI.out.mono ?_; rintro e w1 ⟨rfl, hb1⟩))
    go_ret
    refine ⟨ret_bool ?_, hb1⟩
    have e := HL.out.2
    first | exact (e.1 h).symm | (rw [Bool.eq_iff_iff, decide_eq_true_iff]; exact e) | (rw [eq_comm, Bool.eq_false_iff]; exact fun h' => h (e.2 h'))

set_option maxHeartbeats 400000 in
set_option maxRecDepth 100000 in
theorem IndexRs_any (A : Option Addr) (c : Nat) (l : List Resr) (f : FuncId) (caps : Array Value) (p : Resr → Bool) (w : World) (hl : l.length ≤ maxLen)
    (hR : Rd w A (rows l)) (hf : Enters f) (hp : AsksV rsV w f caps p l) :
    Calls Tryz.prog 177 #[.slice A l.length c, .func (.func f) #[] caps] w fun e w' => e = .returned (.int .i64 (firstV p l 0)) ∧ Below w.heap.size w w' := by
  unfold maxLen at hl
  have HR := Lib.hid hR
  have HP := Lib.hid hp
  clear hR hp
  generalize hn : l.length = n at hl ⊢
  have HN := Lib.hid hn
  clear hn
  go_enter Tryz.func177, Tryz.ntmps177
  go_wp2
  go_loopw [8] (fun i wr => ∃ k : Nat, k ≤ n ∧ i = .int .i64 k ∧ Below w.heap.size w wr ∧ ∀ j, j < k → p (l.getD j Resr.none) = false) (fun i _ => n - (intOf i).toNat)
  case atStart => exact ⟨0, Nat.zero_le _, rfl, Below.refl _ _, fun j hj => absurd hj (by omega)⟩
  case round =>
    obtain ⟨k, hk, rfl, hb, hno⟩ := hrel
    have HNO := Lib.hid hno
    clear hno
    by_cases hlt : k < n
    · have hkl : k < l.length := by rw [HN.out]; exact hlt
      obtain ⟨b, o, rfl, hbl, hc⟩ := HR.out.at_ (by rw [rows_length]; simp only [Cellful.s]; omega)
      have hcr : ∀ j v, (rows l)[j]? = some v → wr.cell? ⟨b, o + j, none⟩ = some v := fun j v hj => by
        rw [hb.cell (p := ⟨b, o + j, none⟩) hbl]; exact hc j v hj
      have HC := Lib.hid hc
      clear hc
      have hmem : l.getD k Resr.none ∈ l := by simp [hkl]
      generalize hx : l.getD k Resr.none = x at hmem
      obtain ⟨c0, c1, c2, c3⟩ := rsr_cells hcr hkl hx
      have HX := Lib.hid hx
      clear hx hkl hcr
      have hcall := HP.out x hmem wr hb
      have HCALL := Lib.hid hcall
      clear hcall hmem
      have hrun := hf (#[rsV x] ++ caps) wr
      unfold rsV at hrun
      by_cases hpx : p x = true
      · go_wp2_with (first | (refine HCALL.out.mono ?_; rintro e w1 ⟨rfl, hb1⟩))
        go_ret
        exact ⟨ret_int (by rw [firstV_hit Resr.none l 0 k (by rw [HN.out]; exact hlt) HNO.out (by rw [HX.out]; exact hpx)]; simp), hb.trans (hb1.mono hb.size)⟩
      · simp only [Bool.not_eq_true] at hpx
        go_wp2_with (first | (refine HCALL.out.mono ?_; rintro e w1 ⟨rfl, hb1⟩))
        go_roundw
        case rel =>
          refine ⟨k + 1, by omega, by go_num, hb.trans (hb1.mono hb.size), fun j hj => ?_⟩
          by_cases hjk : j = k
          · subst hjk; rw [HX.out]; exact hpx
          · exact HNO.out j (by omega)
        case measure => simp [intOf]; omega
    · go_wp2
      go_ret
      refine ⟨ret_int ?_, hb⟩
      rw [firstV_none l 0 (fun x hx => ?_)]
      obtain ⟨j, hj, rfl⟩ := List.getElem_of_mem hx
      have := HNO.out j (by have := HN.out; omega)
      simpa [List.getD, hj] using this

set_option maxHeartbeats 400000 in
theorem HasRs_any (A : Option Addr) (c : Nat) (l : List Resr) (f : FuncId) (caps : Array Value) (p : Resr → Bool) (w : World) (hl : l.length ≤ maxLen)
    (hR : Rd w A (rows l)) (hf : Enters f) (hp : AsksV rsV w f caps p l) :
    Calls Tryz.prog 141 #[.slice A l.length c, .func (.func f) #[] caps] w fun e w' => e = .returned (.bool (l.any p)) ∧ Below w.heap.size w w' := by
  have HI := Lib.hid (IndexRs_any A c l f caps p w hl hR hf hp)
  have hlo := firstV_lo (p := p) l 0
  have HL := Lib.hid hlo
  clear hR hp hf hl hlo
  by_cases h : 0 ≤ firstV p l 0
  all_goals
    go_enter Tryz.func141, Tryz.ntmps141
    go_wp2_with (first | (refine HI.out.mono ?_; rintro e w1 ⟨rfl, hb1⟩))
    go_ret
    refine ⟨ret_bool ?_, hb1⟩
    have e := HL.out.2
    first | exact (e.1 h).symm | (rw [Bool.eq_iff_iff, decide_eq_true_iff]; exact e) | (rw [eq_comm, Bool.eq_false_iff]; exact fun h' => h (e.2 h'))

end Go.Proofs.YtieglgahfeecbaaGreatDoor

namespace Go.Proofs.YtieglgahfeecbaaGreatDoor
open Go.RowKit Go.Sort

set_option maxHeartbeats 1000000 in
theorem pfits32 (n : Int) (w : World) : Calls Tryz.prog 87 #[.int .i64 n, .int .i64 32] w fun e w' => e = .returned (.bool (inB n 0 4294967295)) ∧ w = w' := by
  unfold inB
  by_cases h1 : 0 ≤ n <;> by_cases h2 : n < 4294967296
  all_goals
    go_enter Tryz.func87, Tryz.ntmps87
    go_wp2
    go_ret
    refine ⟨ret_bool ?_, rfl⟩
    first | (simp [h1]; done) | (simp [h1]; omega) | grind
set_option maxHeartbeats 1000000 in
theorem pfits16 (n : Int) (w : World) : Calls Tryz.prog 87 #[.int .i64 n, .int .i64 16] w fun e w' => e = .returned (.bool (inB n 0 65535)) ∧ w = w' := by
  unfold inB
  by_cases h1 : 0 ≤ n <;> by_cases h2 : n < 65536
  all_goals
    go_enter Tryz.func87, Tryz.ntmps87
    go_wp2
    go_ret
    refine ⟨ret_bool ?_, rfl⟩
    first | (simp [h1]; done) | (simp [h1]; omega) | grind
set_option maxHeartbeats 1000000 in
theorem pfits8 (n : Int) (w : World) : Calls Tryz.prog 87 #[.int .i64 n, .int .i64 8] w fun e w' => e = .returned (.bool (inB n 0 255)) ∧ w = w' := by
  unfold inB
  by_cases h1 : 0 ≤ n <;> by_cases h2 : n < 256
  all_goals
    go_enter Tryz.func87, Tryz.ntmps87
    go_wp2
    go_ret
    refine ⟨ret_bool ?_, rfl⟩
    first | (simp [h1]; done) | (simp [h1]; omega) | grind
set_option maxHeartbeats 1000000 in
theorem pfits4 (n : Int) (w : World) : Calls Tryz.prog 87 #[.int .i64 n, .int .i64 4] w fun e w' => e = .returned (.bool (inB n 0 15)) ∧ w = w' := by
  unfold inB
  by_cases h1 : 0 ≤ n <;> by_cases h2 : n < 16
  all_goals
    go_enter Tryz.func87, Tryz.ntmps87
    go_wp2
    go_ret
    refine ⟨ret_bool ?_, rfl⟩
    first | (simp [h1]; done) | (simp [h1]; omega) | grind

theorem in_two (n a b : Int) : inB n a b = (decide (a ≤ n) && decide (n ≤ b)) := rfl

set_option maxHeartbeats 4000000 in
theorem pGood_any (r : Resr) (w : World) : Calls Tryz.prog 143 #[rsV r] w fun e w' => e = .returned (.bool (goodR r)) ∧ Below w.heap.size w w' := by
  have HG : RowKit.Hid (goodR r = (inB r.value 0 4294967295 && inB r.code 0 255 && inB r.case_ 0 15 && (decide (0 ≤ r.seq) && decide (r.seq ≤ 1048575)))) := Lib.hid (by unfold goodR; rw [in_two r.seq 0 1048575])
  unfold rsV
  go_enter Tryz.func143, Tryz.ntmps143
  go_wp2_with (go_at_call 87; first | (with_reducible refine (pfits32 _ _).mono ?_; rintro e w' ⟨rfl, rfl⟩) | (with_reducible refine (pfits8 _ _).mono ?_; rintro e w' ⟨rfl, rfl⟩) | (with_reducible refine (pfits4 _ _).mono ?_; rintro e w' ⟨rfl, rfl⟩))
  all_goals
    go_ret
    refine ⟨ret_bool ?_, (Below.refl _ _).alloc (Nat.le_refl _) _⟩
    rw [HG.out]
    first | (simp [*]; done) | (simp [*]; omega) | grind

set_option maxHeartbeats 1000000 in
theorem kdone1_any (r : Resr) (w : World) : Calls Tryz.prog 142 #[rsV r] w fun e w' => e = .returned (.bool (!goodR r)) ∧ Below w.heap.size w w' := by
  have HC := Lib.hid (fun W => pGood_any r W)
  unfold rsV at HC ⊢
  go_enter Tryz.func142, Tryz.ntmps142
  go_wp2_with (refine (HC.out _).mono ?_; rintro e w1 ⟨rfl, hb1⟩)
  go_ret
  exact ⟨rfl, ((Below.refl _ _).alloc (Nat.le_refl _) _).trans (hb1.mono (by simp))⟩
theorem kdone1_enters : Enters 142 := enters_of Tryz.func142 (by kernel_rfl) (by kernel_rfl)

theorem any_not_all {α : Type} (p : α → Bool) (l : List α) : (!l.any fun x => !p x) = l.all p := by
  induction l with
  | nil => rfl
  | cons a l ih => simp only [List.any_cons, List.all_cons, Bool.not_or, Bool.not_not, ih]

set_option maxHeartbeats 1000000 in
theorem kdone_any (A : Option Addr) (c : Nat) (l : List Resr) (th : Int) (w : World) (hl : l.length ≤ 1048576) (hR : Rd w A (rows l)) :
    Calls Tryz.prog 108 #[.slice A l.length c, .int .i64 th] w fun e w' => e = .returned (.bool (dnsB l th)) ∧ Below w.heap.size w w' := by
  have HC := Lib.hid (HasRs_any A c l 142 #[] (fun r => !goodR r) w (by unfold maxLen; omega) hR kdone1_enters (fun x _ w' _ => kdone1_any x w'))
  have HV : RowKit.Hid (dnsB l th = (decide ((l.length : Int) = th) && !(l.any fun x => !goodR x))) := Lib.hid (by rw [any_not_all]; rfl)
  clear hR
  generalize l.length = n at *
  generalize (l.any fun x => !goodR x) = a at *
  generalize dnsB l th = R at *
  by_cases h : (n : Int) = th
  all_goals
    go_enter Tryz.func108, Tryz.ntmps108
    go_wp2_with (refine HC.out.mono ?_; rintro e w1 ⟨rfl, hb1⟩)
    go_ret
    refine ⟨ret_bool ?_, by first | exact hb1 | exact Below.refl _ _⟩
    rw [HV.out]
    first | (simp [h]; done) | (simp; omega) | grind

set_option maxHeartbeats 1000000 in
theorem kvalues1_any (n : Int) (w : World) : Calls Tryz.prog 146 #[.int .i64 n] w fun e w' => e = .returned (.bool (!inB n 0 4294967295)) ∧ Below w.heap.size w w' := by
  have HC := Lib.hid (fun W => in_any n 0 4294967295 W)
  go_enter Tryz.func146, Tryz.ntmps146
  go_wp2_with (refine (HC.out _).mono ?_; rintro e w1 ⟨rfl, rfl⟩)
  go_ret
  exact ⟨rfl, Below.refl _ _⟩
theorem kvalues1_enters : Enters 146 := enters_of Tryz.func146 (by kernel_rfl) (by kernel_rfl)

set_option maxHeartbeats 1000000 in
theorem kvalues_any (A : Option Addr) (c : Nat) (l : List Int) (most : Int) (w : World) (hl : l.length ≤ 1048576) (hR : Rd w A (ints l)) :
    Calls Tryz.prog 116 #[.slice A l.length c, .int .i64 most] w fun e w' => e = .returned (.bool (valuesB l most)) ∧ Below w.heap.size w w' := by
  have HC := Lib.hid (ContainsFunc_any A c l 146 #[] (fun x => !inB x 0 4294967295) w (by unfold maxLen; omega) hR kvalues1_enters (fun x _ w' _ => kvalues1_any x w'))
  have HV : RowKit.Hid (valuesB l most = (decide ((l.length : Int) ≤ most) && !(l.any fun x => !inB x 0 4294967295))) := Lib.hid (by rw [any_not_all (fun x => inB x 0 4294967295)]; rfl)
  clear hR
  generalize l.length = n at *
  generalize (l.any fun x => !inB x 0 4294967295) = a at *
  generalize valuesB l most = R at *
  by_cases h : (n : Int) ≤ most
  all_goals
    go_enter Tryz.func116, Tryz.ntmps116
    go_wp2_with (refine HC.out.mono ?_; rintro e w1 ⟨rfl, hb1⟩)
    go_ret
    refine ⟨ret_bool ?_, by first | exact hb1 | exact Below.refl _ _⟩
    rw [HV.out]
    first | (simp [h]; done) | (simp; omega) | grind

end Go.Proofs.YtieglgahfeecbaaGreatDoor

namespace Go.Proofs.YtieglgahfeecbaaGreatDoor
open Go.RowKit Go.Sort

theorem rrI_resI {r : Resr} (h : goodR r = true) : rrI (resI r) = r := by
  obtain ⟨s, k, c, v⟩ := r
  have h' := h
  simp only [goodR, inB, Bool.and_eq_true, decide_eq_true_eq] at h'
  simp only [resI, h, if_true, rrI, Resr.mk.injEq]
  omega

theorem getD_append_left {α : Type} (d : α) {a b : List α} {k : Nat} (h : k < a.length) : (a ++ b).getD k d = a.getD k d := by
  simp [List.getD, List.getElem?_append_left h]
theorem getD_append_right {α : Type} (d : α) {a b : List α} {k : Nat} (h : a.length ≤ k) : (a ++ b).getD k d = b.getD (k - a.length) d := by
  simp [List.getD, List.getElem?_append_right h]
theorem getD_map_lt {α β : Type} (f : α → β) (d : α) (e : β) {l : List α} {k : Nat} (h : k < l.length) : (l.map f).getD k e = f (l.getD k d) := by
  simp [List.getD, h]

theorem filter_range_lt (m : Int) (n : Nat) (h0 : 0 ≤ m) (h : m ≤ n) : (List.range n).filter (fun i : Nat => decide ((i : Int) < m)) = List.range m.toNat := by
  obtain ⟨k, rfl⟩ : ∃ k : Nat, m = k := ⟨m.toNat, by omega⟩
  have hk : k ≤ n := by omega
  obtain ⟨d, rfl⟩ : ∃ d, n = k + d := ⟨n - k, by omega⟩
  clear h0 h hk
  induction d with
  | zero =>
    rw [Nat.add_zero, List.filter_eq_self.2]
    · simp
    · intro a ha
      have := List.mem_range.1 ha
      simp; omega
  | succ d ih =>
    rw [show k + (d + 1) = (k + d) + 1 by omega, List.range_succ, List.filter_append, ih]
    simp

theorem rowR_rowI {l : List Int} {n : Nat} {t : List Int} (hl : l.length ≤ n) (hv : ∀ v ∈ l, inB v 0 4294967295 = true) : rowR l.length n (rowI l n ++ t) = l := by
  unfold rowR
  rw [filter_range_lt _ _ (by omega) (by omega), Int.toNat_natCast]
  apply List.ext_getElem
  · simp
  · intro i h1 h2
    simp only [List.getElem_map, List.getElem_range]
    rw [getD_append_left 0 (by rw [rowI_len]; omega)]
    have e : (rowI l n).getD i 0 = l[i] := by
      unfold rowI
      simp [List.getD, show i < n by omega, h2]
    rw [e]
    have := hv l[i] (List.getElem_mem h2)
    simp only [inB, Bool.and_eq_true, decide_eq_true_eq] at this
    omega

theorem resR_map {l : List Resr} {t : List Int} (h : ∀ r ∈ l, goodR r = true) : resR l.length (l.map resI ++ t) = l := by
  unfold resR
  apply List.ext_getElem
  · simp
  · intro i h1 h2
    simp only [List.getElem_map, List.getElem_range]
    rw [getD_append_left 0 (by simpa using h2), getD_map_lt resI Resr.none 0 h2]
    have e : l.getD i Resr.none = l[i] := by simp [List.getD, h2]
    rw [e]
    exact rrI_resI (h _ (List.getElem_mem h2))

theorem cellsR_cellsI {c : Cfg} {x : CellsP} (hc : chkB c = true) (hf : FitC c x) : cellsR c (cellsI c.cap x) = x := by
  obtain ⟨cap, l, d⟩ := x
  have hb := chk_cap hc
  have h1 := hf.cap
  have h2 := hf.few
  have h4 := hf.ndn
  simp only at h1 h2 h4
  have h3 := hf.vals
  have h5 := hf.dn
  simp only at h3 h5
  have e0 : (cellsI c.cap ⟨cap, l, d⟩).getD 0 0 = l.length := by simp [cellsI]
  have e1 : (cellsI c.cap ⟨cap, l, d⟩).drop 1 = rowI l c.cap.toNat ++ d.map resI := by simp [cellsI]
  have e2 : (cellsI c.cap ⟨cap, l, d⟩).drop (1 + c.cap.toNat) = d.map resI := by
    have hh : (cellsI c.cap ⟨cap, l, d⟩) = ([(l.length : Int)] ++ rowI l c.cap.toNat) ++ d.map resI := rfl
    rw [hh, List.drop_left' (by rw [List.length_append, rowI_len]; rfl)]
  unfold cellsR
  rw [e0, e1, e2, show min (l.length : Int) 17 = l.length by omega, rowR_rowI (by omega) h3]
  have hn : c.threads.toNat = d.length := by omega
  have h6 := resR_map (l := d) (t := []) h5
  rw [List.append_nil] at h6
  rw [hn, h6, h1]

theorem readC_put {c : Cfg} {x : CellsP} (hc : chkB c = true) (hk : ¬ c.kind = 3) (hf : FitC c x) : readC c (cellsI c.cap x) = some x := by
  unfold readC
  rw [if_pos ⟨hc, hk, cellsI_size hc hk hf, by rw [cellsR_cellsI hc hf, putC, if_pos ((fitsC_iff hc hk).2 hf)]⟩, cellsR_cellsI hc hf]

theorem done_at {c : Cfg} {x : CellsP} {t : Nat} (hc : chkB c = true) (hk : ¬ c.kind = 3) (hf : FitC c x) (ht : (t : Int) < c.threads) : rrI (doneO c (cellsI c.cap x) t) = x.done.getD t Resr.none := by
  have hb := chk_cap hc
  have h4 := hf.ndn
  have hs : stateS c = 1 + c.cap := by simp [stateS, hc, hk]
  have hl := cellsI_len c.cap x
  unfold doneO
  rw [if_neg (by rw [hs, hl]; rintro (h | h | h | h) <;> first | omega | (rw [hc] at h; cases h)), hs]
  have hh : (cellsI c.cap x) = ([(x.list.length : Int)] ++ rowI x.list c.cap.toNat) ++ x.done.map resI := rfl
  have hl2 : ([(x.list.length : Int)] ++ rowI x.list c.cap.toNat).length = 1 + c.cap.toNat := by rw [List.length_append, rowI_len]; rfl
  rw [hh, getD_append_right 0 (by rw [hl2]; omega), hl2, show (1 + c.cap + (t : Int)).toNat - (1 + c.cap.toNat) = t by omega, getD_map_lt resI Resr.none 0 (by omega)]
  exact rrI_resI (hf.dn _ (getD_mem (by omega)))

theorem startC_fit {c : Cfg} (hc : chkB c = true) : FitC c ⟨c.cap, [], List.replicate (clampI c.threads 64) Resr.none⟩ := by
  have hb := chk_cap hc
  refine ⟨rfl, by simp; omega, by simp, ?_, fun r hr => ?_⟩
  · simp only [List.length_replicate, clampI]; omega
  · rw [List.eq_of_mem_replicate hr]; decide

/-- The record behind a call, and the results. -/
theorem applyO_cells {c : Cfg} {x : CellsP} {t : Nat} {seq : Int} {q : ReqP} (hc : chkB c = true) (hk : ¬ c.kind = 3) (hf : FitC c x) (ht : (t : Int) < c.threads) (hs : inB seq 0 1048575 = true) (hq : fitsQ q = true) :
    applyO c (cellsI c.cap x) t seq q = cellsI c.cap (applyC (decide (c.kind = 2)) x t seq q) ∧ FitC c (applyC (decide (c.kind = 2)) x t seq q) := by
  have hf2 := applyC_ok (t := (t : Int)) (decide (c.kind = 2)) hc hf hs hq
  refine ⟨?_, hf2⟩
  have hs' := hs
  simp only [inB, Bool.and_eq_true, decide_eq_true_eq] at hs'
  unfold applyO
  rw [if_neg (by rintro (h | h | h | h | h) <;> first | omega | (rw [hq] at h; cases h)), if_neg hk, readC_put hc hk hf]
  simp only
  rw [putC, if_pos ((fitsC_iff hc hk).2 hf2)]

end Go.Proofs.YtieglgahfeecbaaGreatDoor

namespace Go.Proofs.YtieglgahfeecbaaGreatDoor
open Go.RowKit Go.Sort

structure Rf where
  (index tag : Int)
abbrev rfV (r : Rf) : Value := .agg #[.int .i64 r.index, .int .i64 r.tag]

def refGood (a b : Int) : Bool := decide (0 ≤ a) && decide (a ≤ 65534) && decide (1 ≤ b) && decide (b ≤ 4294967295)

theorem or16 {a b : Int} (h1 : 0 ≤ a) (h2 : a ≤ 65534) (h3 : 0 ≤ b) (h4 : b ≤ 4294967295) : bits BinOp.or IntKind.u64 (b * 65536) (a + 1) = b * 65536 + (a + 1) := by
  have e1 : b * 65536 = ((b.toNat * 65536 : Nat) : Int) := by omega
  have e2 : a + 1 = (((a + 1).toNat : Nat) : Int) := by omega
  rw [e1, e2, bits_or_u64_nat _ _ (by omega) (by omega)]
  have h5 : (a + 1).toNat < 2 ^ 16 := by omega
  rw [show b.toNat * 65536 = b.toNat <<< 16 by rw [Nat.shiftLeft_eq], ← Nat.shiftLeft_add_eq_or_of_lt h5]
  rw [Nat.shiftLeft_eq]; omega

def refWord (a b : Int) : Int := if refGood a b = true then b * 65536 + (a + 1) else 0

/-- What a word names. -/
def rdOk (u : Nat) : Bool := decide (1 ≤ u % 65536) && decide (1 ≤ u / 65536) && decide (u / 65536 ≤ 4294967295)
def rdOf (u : Nat) : Rf := if rdOk u = true then ⟨(u % 65536 : Int) - 1, u / 65536⟩ else ⟨0, 0⟩

theorem rd_word (u : Nat) : (refWord ((u : Int) % 65536 - 1) ((u : Int) / 65536 % 4294967296) = u ∧ u ≠ 0) ↔ rdOk u = true := by
  unfold refWord refGood rdOk
  simp only [Bool.and_eq_true, decide_eq_true_eq]
  constructor
  · rintro ⟨h1, h2⟩
    split at h1 <;> omega
  · rintro ⟨⟨h1, h2⟩, h3⟩
    rw [if_pos (by omega)]
    omega

theorem ret_cell2 {fn : Func} {p u : Tmp} {ty : TypeId} (h : fn.results = #[.cell p ty, .tmp u]) {tmps : Array Value} {w : World} {g : Nat} {v x : Value} (ht : tmps.getD p undef = .pointer (some ⟨g, 0, none⟩)) (hu : tmps.getD u undef = x) (hl : (loadVar ty ⟨g, 0, none⟩).run Tryz.prog w = .ok v w) :
    (results fn tmps).run Tryz.prog w = .ok (.tuple #[v, x]) w := by
  have e1 : (results fn tmps).run Tryz.prog w = ((asAddr (tmps.getD p undef)).run Tryz.prog w).andThen fun a w₁ => ((loadVar ty a).run Tryz.prog w₁).andThen fun v w₂ => .ok (.tuple #[v, tmps.getD u undef]) w₂ := by
    simp only [results, h]
    simp
  rw [e1, ht, hu]
  have ha : (asAddr (.pointer (some ⟨g, 0, none⟩))).run Tryz.prog w = .ok ⟨g, 0, none⟩ w := by simp [asAddr, go_sem]
  rw [ha, Result.andThen_ok, hl, Result.andThen_ok]

theorem and16 (u : Nat) (h : u < 18446744073709551616) : bits BinOp.and IntKind.u64 (u : Int) 65535 = (u : Int) % 65536 := by
  have h1 := bits_and_u64_nat u 65535 h (by decide)
  have h2 : u &&& 65535 = u % 65536 := by
    have := Nat.and_two_pow_sub_one_eq_mod u 16
    simpa using this
  rw [h2] at h1
  exact h1.trans (by omega)
theorem and32 (u : Nat) (h : u < 18446744073709551616) : bits BinOp.and IntKind.u64 (u : Int) 4294967295 = (u : Int) % 4294967296 := by
  have h1 := bits_and_u64_nat u 4294967295 h (by decide)
  have h2 : u &&& 4294967295 = u % 4294967296 := by
    have := Nat.and_two_pow_sub_one_eq_mod u 32
    simpa using this
  rw [h2] at h1
  exact h1.trans (by omega)

end Go.Proofs.YtieglgahfeecbaaGreatDoor

namespace Go.Proofs.YtieglgahfeecbaaGreatDoor
open Go.RowKit Go.Sort
attribute [local go_sem ↓] Go.wp_at_zero Go.wp_at_succ

theorem or_parts (a b P : Int) (k : Nat) (hP : P = ((2 ^ k : Nat) : Int)) (ha : 0 ≤ a) (h0 : 0 ≤ b) (hb : b < P) (h : a * P + b < 18446744073709551616) : bits BinOp.or IntKind.u64 (a * P) b = a * P + b := by
  obtain ⟨x, rfl⟩ : ∃ n : Nat, a = n := ⟨a.toNat, by omega⟩
  obtain ⟨y, rfl⟩ : ∃ n : Nat, b = n := ⟨b.toNat, by omega⟩
  subst hP
  rw [← Int.natCast_mul] at h ⊢
  have hxy : x * 2 ^ k + y < 18446744073709551616 := by omega
  have hy : y < 2 ^ k := by omega
  rw [bits_or_u64_nat _ _ (by omega) (by omega)]
  have : x * 2 ^ k ||| y = x * 2 ^ k + y := by
    rw [Nat.mul_comm]
    exact (Nat.two_pow_add_eq_or_of_lt hy x).symm
  rw [this, Int.natCast_add]

/-- A result's word, part by part. -/
theorem res_parts {r : Resr} (h : goodR r = true) :
    bits BinOp.or IntKind.u64 (r.seq * 17592186044416) (r.case_ * 1099511627776) = r.seq * 17592186044416 + r.case_ * 1099511627776 ∧
    bits BinOp.or IntKind.u64 (r.seq * 17592186044416 + r.case_ * 1099511627776) (r.code * 4294967296) = r.seq * 17592186044416 + r.case_ * 1099511627776 + r.code * 4294967296 ∧
    bits BinOp.or IntKind.u64 (r.seq * 17592186044416 + r.case_ * 1099511627776 + r.code * 4294967296) r.value = resI r := by
  have hg := h
  simp only [goodR, inB, Bool.and_eq_true, decide_eq_true_eq] at h
  obtain ⟨s, k, c, v⟩ := r
  simp only at h
  obtain ⟨⟨⟨⟨v0, v1⟩, c0, c1⟩, k0, k1⟩, s0, s1⟩ := h
  have h1 := or_parts s (k * 1099511627776) 17592186044416 44 (by decide +kernel) s0 (by omega) (by omega) (by omega)
  have h2 := or_parts (s * 16 + k) (c * 4294967296) 1099511627776 40 (by decide +kernel) (by omega) (by omega) (by omega) (by omega)
  have h3 := or_parts ((s * 16 + k) * 256 + c) v 4294967296 32 (by decide +kernel) (by omega) v0 (by omega) (by omega)
  have e2 : (s * 16 + k) * 1099511627776 = s * 17592186044416 + k * 1099511627776 := by omega
  have e3 : ((s * 16 + k) * 256 + c) * 4294967296 = s * 17592186044416 + k * 1099511627776 + c * 4294967296 := by omega
  rw [e2] at h2
  rw [e3] at h3
  simp only [resI, hg, if_true]
  exact ⟨h1, h2, h3⟩

set_option maxHeartbeats 4000000 in
set_option maxRecDepth 100000 in
theorem pResult_any (r : Resr) (w : World) : Calls Tryz.prog 115 #[rsV r] w fun e w' => e = .returned (.int .u64 (resI r)) ∧ Below w.heap.size w w' := by
  have HC := Lib.hid (fun W => pGood_any r W)
  have HB0 := Lib.hid ((Below.refl w.heap.size w).alloc (Nat.le_refl _) (.cells #[.int .i64 r.seq, .int .i64 r.case_, .int .i64 r.code, .int .i64 r.value] 42))
  cases hg : goodR r
  · have HV : RowKit.Hid (resI r = 0) := Lib.hid (by simp [resI, hg])
    rw [hg] at HC
    unfold rsV at HC ⊢
    go_enter Tryz.func115, Tryz.ntmps115
    go_wp2_with (refine (HC.out _).mono ?_; rintro e w1 ⟨rfl, hb1⟩)
    go_ret
    exact ⟨by rw [HV.out]; rfl, HB0.out.trans (hb1.mono HB0.out.size)⟩
  · obtain ⟨o1, o2, o3⟩ := res_parts hg
    rw [hg] at HC
    have hr := hg
    simp only [goodR, inB, Bool.and_eq_true, decide_eq_true_eq] at hr
    obtain ⟨⟨⟨⟨v0, v1⟩, c0, c1⟩, k0, k1⟩, s0, s1⟩ := hr
    generalize resI r = R at *
    clear hg
    unfold rsV at HC ⊢
    go_enter Tryz.func115, Tryz.ntmps115
    go_wp2_with (refine (HC.out _).mono ?_; rintro e w1 ⟨rfl, hb1⟩; have hk := fun o => hb1.cell (p := ⟨w.heap.size, o, none⟩) (by simp); have HB1 := Lib.hid (HB0.out.trans (hb1.mono HB0.out.size)); clear hb1)
    go_ret
    exact ⟨rfl, HB1.out⟩

end Go.Proofs.YtieglgahfeecbaaGreatDoor

namespace Go.Proofs.YtieglgahfeecbaaGreatDoor
open Go.RowKit Go.Sort
attribute [local go_sem ↓] Go.wp_at_zero Go.wp_at_succ

theorem wordsApp (a b : List Int) : words a ++ words b = words (a ++ b) := by simp [words]

/-- The row so far. -/
theorem rowI_succ (l : List Int) (k : Nat) : rowI l (k + 1) = rowI l k ++ [if k < l.length then l.getD k 0 else 0] := by
  unfold rowI
  rw [List.range_succ, List.map_append]
  rfl

/-- Handed back: a row that words were put behind, in memory from a base on. -/
def RetMore (base m : Nat) (xs : List Int) (w : World) (e : Ending) (w' : World) : Prop :=
  ∃ A c, e = .returned (.slice A m c) ∧ w'.ownsRow base 95 1 (.slice A m c) m (words xs) ∧ Below base w w'

set_option maxHeartbeats 8000000 in
set_option maxRecDepth 100000 in
theorem krow_any (base : Nat) (A : Option Addr) (m c : Nat) (xs : List Int) (B : Option Addr) (d : Nat) (l : List Int) (n : Nat) (w : World) (hb : base ≤ w.heap.size) (hown : w.ownsRow base 95 1 (.slice A m c) m (words xs))
    (hl : l.length ≤ 1048576) (hv : ∀ v ∈ l, inB v 0 4294967295 = true) (hn : n ≤ 4096) (hm : m ≤ 4096) (hR : ∀ w', Below base w w' → Rd w' B (ints l)) :
    Calls Tryz.prog 74 #[.slice A m c, .slice B l.length d, .int .i64 n] w (RetMore base (m + n) (xs ++ rowI l n) w) := by
  have HR := Lib.hid hR
  have HV := Lib.hid hv
  have HS := Lib.hid hb
  clear hR hv hb
  generalize hll : l.length = ll at *
  have HL := Lib.hid hll
  clear hll
  go_enter Tryz.func74, Tryz.ntmps74
  go_wp2_with fail
  go_loopg [0, 10] n (fun g out i wr => ∃ (k : Nat) (A1 : Option Addr) (c1 : Nat), k ≤ n ∧ g = n - k ∧ i = .int .i64 k ∧ out = .slice A1 (m + k) c1 ∧ wr.ownsRow base 95 1 (.slice A1 (m + k) c1) (m + k) (words (xs ++ rowI l k)) ∧ Below base w wr)
  case atStart => exact ⟨0, A, c, Nat.zero_le _, rfl, rfl, rfl, by simpa [rowI] using hown, Below.refl _ _⟩
  case round =>
    obtain ⟨k, A1, c1, hk, hg, rfl, rfl, how, hb⟩ := hrel
    have HG := Lib.hid hg
    have HB := Lib.hid hb
    have HO := Lib.hid how
    have HSZ := Lib.hid (Nat.le_trans HS.out hb.size)
    clear hg hb how hown
    have HRW := Lib.hid (rowI_succ l k)
    by_cases hlt : k < n
    · by_cases hlk : k < ll
      · obtain ⟨b, o, rfl, hbl, hc⟩ := (HR.out _ HB.out).at_ (by rw [ints_length]; have := HL.out; omega)
        have hcell : wr.cell? ⟨b, o + k, none⟩ = some (.int .i64 (l.getD k 0)) := hc k _ (ints_at (by have := HL.out; omega))
        have hv := HV.out (l.getD k 0) (getD_mem (by have := HL.out; omega))
        rw [if_pos (by have := HL.out; omega)] at HRW
        generalize l.getD k 0 = x at *
        simp only [inB, Bool.and_eq_true, decide_eq_true_eq] at hv
        obtain ⟨v0, v1⟩ := hv
        clear hc
        go_wp2_with (at_builtin; refine wpList_app rfl (.tmp 22) (.tmp 24) 53 95 rfl base (.int .u64 0) 1 8 Tryz.underlying53 CloneW_info rfl (by decide) A1 (m + k) c1 _ rfl (HO.out.alloc _) (some ⟨wr.heap.size, 0, none⟩) 1 1 (words [x]) rfl (by simp) rfl (blk_new rfl).rd (words_one _) (m + (k + 1)) (by omega) (words (xs ++ rowI l (k + 1))) (by rw [HRW.out, wordsApp, List.append_assoc]) (by unfold maxLen; omega) (by omega) (Nat.le_trans HSZ.out (by simp)) ?_; intro A2 c2 w2 hown2 hg2 hb2)
        go_roundg (n - (k + 1))
        case measure => rw [HG.out]; omega
        case rel => exact ⟨k + 1, A2, c2, by omega, rfl, by go_num, rfl, hown2, (HB.out.alloc HSZ.out _).trans hb2⟩
      · rw [if_neg (by have := HL.out; omega)] at HRW
        go_wp2_with (at_builtin; refine wpList_app rfl (.tmp 22) (.tmp 24) 53 95 rfl base (.int .u64 0) 1 8 Tryz.underlying53 CloneW_info rfl (by decide) A1 (m + k) c1 _ rfl (HO.out.alloc _) (some ⟨wr.heap.size, 0, none⟩) 1 1 (words [0]) rfl (by simp) rfl (blk_new rfl).rd (words_one _) (m + (k + 1)) (by omega) (words (xs ++ rowI l (k + 1))) (by rw [HRW.out, wordsApp, List.append_assoc]) (by unfold maxLen; omega) (by omega) (Nat.le_trans HSZ.out (by simp)) ?_; intro A2 c2 w2 hown2 hg2 hb2)
        go_roundg (n - (k + 1))
        case measure => rw [HG.out]; omega
        case rel => exact ⟨k + 1, A2, c2, by omega, rfl, by go_num, rfl, hown2, (HB.out.alloc HSZ.out _).trans hb2⟩
    · obtain rfl : k = n := by omega
      go_wp2_with fail
      go_ret
      exact ⟨A1, c1, rfl, HO.out, HB.out⟩

set_option maxHeartbeats 8000000 in
set_option maxRecDepth 100000 in
theorem kresults_any (base : Nat) (A : Option Addr) (m c : Nat) (xs : List Int) (B : Option Addr) (d : Nat) (l : List Resr) (w : World) (hb : base ≤ w.heap.size) (hown : w.ownsRow base 95 1 (.slice A m c) m (words xs))
    (hl : l.length ≤ 4096) (hm : m ≤ 4096) (hR : ∀ w', Below base w w' → Rd w' B (rows l)) :
    Calls Tryz.prog 78 #[.slice A m c, .slice B l.length d] w (RetMore base (m + l.length) (xs ++ l.map resI) w) := by
  have HR := Lib.hid hR
  have HS := Lib.hid hb
  clear hR hb
  have HLM : RowKit.Hid (∀ k, k < l.length → (l.take (k + 1)).map resI = (l.take k).map resI ++ [resI (l.getD k Resr.none)]) := Lib.hid (fun k hk => by
    rw [List.take_succ_eq_append_getElem hk, List.map_append]
    simp [List.getD, hk])
  have HLT : RowKit.Hid (l.take l.length = l) := Lib.hid (List.take_length)
  generalize hll : l.length = n at *
  have HL := Lib.hid hll
  clear hll
  go_enter Tryz.func78, Tryz.ntmps78
  go_wp2_with fail
  go_loopg [0, 9] n (fun g out i wr => ∃ (k : Nat) (A1 : Option Addr) (c1 : Nat), k ≤ n ∧ g = n - k ∧ i = .int .i64 k ∧ out = .slice A1 (m + k) c1 ∧ wr.ownsRow base 95 1 (.slice A1 (m + k) c1) (m + k) (words (xs ++ (l.take k).map resI)) ∧ Below base w wr)
  case atStart => exact ⟨0, A, c, Nat.zero_le _, rfl, rfl, rfl, by simpa using hown, Below.refl _ _⟩
  case round =>
    obtain ⟨k, A1, c1, hk, hg, rfl, rfl, how, hb⟩ := hrel
    have HG := Lib.hid hg
    have HB := Lib.hid hb
    have HO := Lib.hid how
    have HSZ := Lib.hid (Nat.le_trans HS.out hb.size)
    clear hg hb how hown
    by_cases hlt : k < n
    · obtain ⟨b, o, rfl, hbl, hc⟩ := (HR.out _ HB.out).at_ (by rw [rows_length]; simp only [Cellful.s]; have := HL.out; omega)
      have HRW := Lib.hid (HLM.out k hlt)
      obtain ⟨x0, x1, x2, x3⟩ := rsr_cells (k := k) (x := l.getD k Resr.none) hc (by have := HL.out; omega) rfl
      have HC := Lib.hid (fun W => pResult_any (l.getD k Resr.none) W)
      generalize l.getD k Resr.none = x at *
      unfold rsV at HC
      clear hc
      go_wp2_with (first
        | (refine (HC.out _).mono ?_; rintro er w1 ⟨rfl, hb1⟩; have HW1 := Lib.hid (((Below.refl wr.heap.size wr).alloc (Nat.le_refl _) _).trans (hb1.mono (by simp))); clear hb1)
        | (at_builtin; refine wpList_app rfl (.tmp 13) (.tmp 16) 53 95 rfl base (.int .u64 0) 1 8 Tryz.underlying53 CloneW_info rfl (by decide) A1 (m + k) c1 _ rfl ((own_below HO.out HW1.out).alloc _) (some ⟨w1.heap.size, 0, none⟩) 1 1 (words [resI x]) rfl (by simp) rfl (blk_new rfl).rd (words_one _) (m + (k + 1)) (by omega) (words (xs ++ (l.take (k + 1)).map resI)) (by rw [HRW.out, wordsApp, List.append_assoc]) (by unfold maxLen; omega) (by omega) (Nat.le_trans HSZ.out (Nat.le_trans HW1.out.size (by simp))) ?_; intro A2 c2 w2 hown2 hg2 hb2))
      go_roundg (n - (k + 1))
      case measure => rw [HG.out]; omega
      case rel => exact ⟨k + 1, A2, c2, by omega, rfl, by go_num, rfl, hown2, ((HB.out.trans (HW1.out.mono HSZ.out)).alloc (Nat.le_trans HSZ.out HW1.out.size) _).trans hb2⟩
    · obtain rfl : k = n := by omega
      go_wp2_with fail
      go_ret
      exact ⟨A1, c1, rfl, by have := HO.out; rw [HLT.out] at this; exact this, HB.out⟩

end Go.Proofs.YtieglgahfeecbaaGreatDoor
