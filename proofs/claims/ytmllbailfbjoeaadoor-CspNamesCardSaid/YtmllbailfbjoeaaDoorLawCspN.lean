/- The law CspNames, walked. -/
import Derived.Test.YtmllbailfbjoeaaDoorCsp5
import Derived.Test.YtmllbailfbjoeaaDoorRefCsp
import Derived.Test.YtmllbailfbjoeaaDoorEqI
namespace Go.Proofs.YtmllbailfbjoeaaDoor
open Go.RowKit Go.Sort
attribute [local go_sem ↓] Go.wp_at_zero Go.wp_at_succ

theorem usesS_len (q : Reqr) (l : List Cse) : (usesS q l).length ≤ l.length + 1 := by
  unfold usesS
  split
  · have := usesTo_len l l.length; omega
  · split <;> simp

set_option maxHeartbeats 16000000 in
set_option maxRecDepth 100000 in
theorem LawCspN_f (kind arg value : Int) (A : Option Addr) (n c : Nat) (l : List Cse) (w : World) (h : ReqAt w ⟨kind, arg, value, false, A, n, c⟩ l) (hcap : n ≤ c) (hn : l.length * 24 ≤ 140737488355328) (ht : TabT w) :
    Calls Tryd.prog 5 #[reqV ⟨kind, arg, value, false, A, n, c⟩] w fun e w' => e = .returned (.bool true) ∧ Below w.heap.size w w' := by
  have H1 := Lib.hid (fun W h => Name_any ⟨kind, arg, value, false, A, n, c⟩ l W h)
  have H2 := Lib.hid (fun W h => rName_any ⟨kind, arg, value, false, A, n, c⟩ l W h)
  have H3 := Lib.hid (fun W h => Uses_any ⟨kind, arg, value, false, A, n, c⟩ l W h hn)
  have H4 := Lib.hid (fun W h => rUses_any ⟨kind, arg, value, false, A, n, c⟩ l W h hcap hn)
  have H5 := Lib.hid (fun W => Waits_any ⟨kind, arg, value, false, A, n, c⟩ W)
  have HUL : RowKit.Hid ((usesS ⟨kind, arg, value, false, A, n, c⟩ l).length ≤ maxLen) := Lib.hid (by have := usesS_len ⟨kind, arg, value, false, A, n, c⟩ l; unfold maxLen; omega)
  have HR := Lib.hid h
  have HT := Lib.hid ht
  have hB0 : Below w.heap.size w (w.alloc (.cells #[.int .i64 kind, .int .i64 arg, .int .i64 value, .bool false, .slice A n c] 24)) := (Below.refl _ _).alloc (Nat.le_refl _) _
  have HB0 := Lib.hid hB0
  have HBX := Lib.hid (Blk.new w 24 (Reqr.cells ⟨kind, arg, value, false, A, n, c⟩))
  clear h ht hcap hn hB0
  simp only at H5
  generalize hwb : (kind == 3 && !false && decide (0 < n)) = wb at *
  have HWB := Lib.hid hwb
  clear hwb
  go_enter Tryd.func5, Tryd.ntmps5
  go_upto_region 1 with (fail)
  go_cut [3] (fun s3 wx => s3 = .bool wb ∧ wx = w.alloc (.cells #[.int .i64 kind, .int .i64 arg, .int .i64 value, .bool false, .slice A n c] 24))
  case first =>
    by_cases h3 : kind = 3
    · have b1 : (kind == 3) = true := by simp [h3]
      have hw := HWB.out
      rw [b1] at hw
      have HW := Lib.hid hw
      clear h3 hw
      go_wp2_with fail
      go_meet
      exact ⟨by rw [← HW.out]; simp, rfl⟩
    · have b1 : (kind == 3) = false := by simp [h3]
      have hw := HWB.out
      rw [b1] at hw
      have HW := Lib.hid (show false = wb from hw)
      clear h3 hw
      go_wp2_with fail
      go_meet
      exact ⟨by rw [← HW.out], rfl⟩
  case rest =>
    obtain ⟨rfl, rfl⟩ := hcut
    generalize hW0 : w.alloc (.cells #[.int .i64 kind, .int .i64 arg, .int .i64 value, .bool false, .slice A n c] 24) = W0 at *
    have HBQ := Lib.hid (show Blk W0 w.heap.size 24 (Reqr.cells ⟨kind, arg, value, false, A, n, c⟩) by rw [← hW0]; exact HBX.out)
    have HRW := Lib.hid (HR.out.below HB0.out)
    have HTW := Lib.hid (HT.out.below HB0.out)
    have HDR := Lib.hid (Below.drewN' (Below.refl W0.heap.size W0) 1)
    clear hW0 HBX HWB HR HT
    obtain ⟨q0, q1, q2, q3, q4⟩ := reqBox HBQ.out
    simp only at q0 q1 q2 q3 q4
    have hl1 := HBQ.out.lt
    have hbb : (wb == wb) = true := by simp
    generalize hnm : nameS ⟨kind, arg, value, false, A, n, c⟩ l = nm at *
    generalize hus : usesS ⟨kind, arg, value, false, A, n, c⟩ l = us at *
    clear hnm hus
    go_upto_region 2 with (fail)
    go_region_held3 (fun w' => w'.cell? ⟨w.heap.size, 0, none⟩ = some (.int .i64 kind) ∧ w'.cell? ⟨w.heap.size, 1, none⟩ = some (.int .i64 arg) ∧ w'.cell? ⟨w.heap.size, 2, none⟩ = some (.int .i64 value) ∧ w'.cell? ⟨w.heap.size, 3, none⟩ = some (.bool false) ∧ w'.cell? ⟨w.heap.size, 4, none⟩ = some (.slice A n c)) (first | go_keep | (simp only [hk1]; go_keep)) (first
      | (go_at_call 27; refine (H1.out W0.drew (HRW.out.below HDR.out)).mono ?_; rintro e w1 ⟨rfl, hb1⟩; have hB1 : Below W0.heap.size W0 w1 := ⟨hb1.os, hb1.tape, hb1.output, hb1.size, hb1.block⟩; have hk1 := fun o => hB1.cell (p := ⟨w.heap.size, o, none⟩) hl1)
      | (go_at_call 28; refine (H2.out w1 (HRW.out.below hB1)).mono ?_; rintro e w2 ⟨rfl, hb2⟩; have hB2 : Below W0.heap.size W0 w2 := hB1.trans (hb2.mono hB1.size); have hk1 := fun o => hB2.cell (p := ⟨w.heap.size, o, none⟩) hl1)
      | (go_at_call 30; refine (H3.out w2 (HRW.out.below hB2)).mono ?_; rintro e w3 ⟨A3, c3, rfl, ho3, hb3⟩; have HO3 := Lib.hid (own_rd ho3); have hB3 : Below W0.heap.size W0 w3 := hB2.trans (hb3.mono hB2.size); have hk1 := fun o => hB3.cell (p := ⟨w.heap.size, o, none⟩) hl1; clear ho3)
      | (go_at_call 31; refine (H4.out w3 (HRW.out.below hB3)).mono ?_; rintro e w4 ⟨A4, c4, rfl, ho4, hb4⟩; have HO4 := Lib.hid (own_rd ho4); have HO3' := Lib.hid (HO3.out.below hb4); have hB4 : Below W0.heap.size W0 w4 := hB3.trans (hb4.mono hB3.size); have hk1 := fun o => hB4.cell (p := ⟨w.heap.size, o, none⟩) hl1; clear ho4)
      | (go_at_call 29; refine (Ints_any A3 A4 c3 c4 us us w4 HUL.out HUL.out HO3'.out HO4.out).mono ?_; rintro e w5 ⟨rfl, hb5⟩; have hB5 : Below W0.heap.size W0 w5 := hB4.trans (hb5.mono hB4.size); have hk1 := fun o => hB5.cell (p := ⟨w.heap.size, o, none⟩) hl1)
      | (go_at_call 32; refine (H5.out w5).mono ?_; rintro e w6 ⟨rfl, hb6⟩; have hB6 : Below W0.heap.size W0 w6 := hB5.trans (hb6.mono hB5.size); have hk1 := fun o => hB6.cell (p := ⟨w.heap.size, o, none⟩) hl1)
      | (go_at_call 9; refine (awake23_any w6 (HTW.out.below hB6)).mono ?_; rintro e w7 ⟨rfl, hb7⟩; have hB7 : Below W0.heap.size W0 w7 := hB6.trans (hb7.mono hB6.size); have hk1 := fun o => hB7.cell (p := ⟨w.heap.size, o, none⟩) hl1))
    go_wp2
    go_ret
    exact ⟨rfl, HB0.out.trans (hB7.mono HB0.out.size)⟩


set_option maxHeartbeats 16000000 in
set_option maxRecDepth 100000 in
theorem LawCspN_t (kind arg value : Int) (A : Option Addr) (n c : Nat) (l : List Cse) (w : World) (h : ReqAt w ⟨kind, arg, value, true, A, n, c⟩ l) (hcap : n ≤ c) (hn : l.length * 24 ≤ 140737488355328) (ht : TabT w) :
    Calls Tryd.prog 5 #[reqV ⟨kind, arg, value, true, A, n, c⟩] w fun e w' => e = .returned (.bool true) ∧ Below w.heap.size w w' := by
  have H1 := Lib.hid (fun W h => Name_any ⟨kind, arg, value, true, A, n, c⟩ l W h)
  have H2 := Lib.hid (fun W h => rName_any ⟨kind, arg, value, true, A, n, c⟩ l W h)
  have H3 := Lib.hid (fun W h => Uses_any ⟨kind, arg, value, true, A, n, c⟩ l W h hn)
  have H4 := Lib.hid (fun W h => rUses_any ⟨kind, arg, value, true, A, n, c⟩ l W h hcap hn)
  have H5 := Lib.hid (fun W => Waits_any ⟨kind, arg, value, true, A, n, c⟩ W)
  have HUL : RowKit.Hid ((usesS ⟨kind, arg, value, true, A, n, c⟩ l).length ≤ maxLen) := Lib.hid (by have := usesS_len ⟨kind, arg, value, true, A, n, c⟩ l; unfold maxLen; omega)
  have HR := Lib.hid h
  have HT := Lib.hid ht
  have hB0 : Below w.heap.size w (w.alloc (.cells #[.int .i64 kind, .int .i64 arg, .int .i64 value, .bool true, .slice A n c] 24)) := (Below.refl _ _).alloc (Nat.le_refl _) _
  have HB0 := Lib.hid hB0
  have HBX := Lib.hid (Blk.new w 24 (Reqr.cells ⟨kind, arg, value, true, A, n, c⟩))
  clear h ht hcap hn hB0
  simp only at H5
  generalize hwb : (kind == 3 && !true && decide (0 < n)) = wb at *
  have HWB := Lib.hid hwb
  clear hwb
  go_enter Tryd.func5, Tryd.ntmps5
  go_upto_region 1 with (fail)
  go_cut [3] (fun s3 wx => s3 = .bool wb ∧ wx = w.alloc (.cells #[.int .i64 kind, .int .i64 arg, .int .i64 value, .bool true, .slice A n c] 24))
  case first =>
    by_cases h3 : kind = 3
    · have b1 : (kind == 3) = true := by simp [h3]
      have hw := HWB.out
      rw [b1] at hw
      have HW := Lib.hid hw
      clear h3 hw
      go_wp2_with fail
      go_meet
      exact ⟨by rw [← HW.out]; simp, rfl⟩
    · have b1 : (kind == 3) = false := by simp [h3]
      have hw := HWB.out
      rw [b1] at hw
      have HW := Lib.hid (show false = wb from hw)
      clear h3 hw
      go_wp2_with fail
      go_meet
      exact ⟨by rw [← HW.out], rfl⟩
  case rest =>
    obtain ⟨rfl, rfl⟩ := hcut
    generalize hW0 : w.alloc (.cells #[.int .i64 kind, .int .i64 arg, .int .i64 value, .bool true, .slice A n c] 24) = W0 at *
    have HBQ := Lib.hid (show Blk W0 w.heap.size 24 (Reqr.cells ⟨kind, arg, value, true, A, n, c⟩) by rw [← hW0]; exact HBX.out)
    have HRW := Lib.hid (HR.out.below HB0.out)
    have HTW := Lib.hid (HT.out.below HB0.out)
    have HDR := Lib.hid (Below.drewN' (Below.refl W0.heap.size W0) 1)
    clear hW0 HBX HWB HR HT
    obtain ⟨q0, q1, q2, q3, q4⟩ := reqBox HBQ.out
    simp only at q0 q1 q2 q3 q4
    have hl1 := HBQ.out.lt
    have hbb : (wb == wb) = true := by simp
    generalize hnm : nameS ⟨kind, arg, value, true, A, n, c⟩ l = nm at *
    generalize hus : usesS ⟨kind, arg, value, true, A, n, c⟩ l = us at *
    clear hnm hus
    go_upto_region 2 with (fail)
    go_region_held3 (fun w' => w'.cell? ⟨w.heap.size, 0, none⟩ = some (.int .i64 kind) ∧ w'.cell? ⟨w.heap.size, 1, none⟩ = some (.int .i64 arg) ∧ w'.cell? ⟨w.heap.size, 2, none⟩ = some (.int .i64 value) ∧ w'.cell? ⟨w.heap.size, 3, none⟩ = some (.bool true) ∧ w'.cell? ⟨w.heap.size, 4, none⟩ = some (.slice A n c)) (first | go_keep | (simp only [hk1]; go_keep)) (first
      | (go_at_call 27; refine (H1.out W0.drew (HRW.out.below HDR.out)).mono ?_; rintro e w1 ⟨rfl, hb1⟩; have hB1 : Below W0.heap.size W0 w1 := ⟨hb1.os, hb1.tape, hb1.output, hb1.size, hb1.block⟩; have hk1 := fun o => hB1.cell (p := ⟨w.heap.size, o, none⟩) hl1)
      | (go_at_call 28; refine (H2.out w1 (HRW.out.below hB1)).mono ?_; rintro e w2 ⟨rfl, hb2⟩; have hB2 : Below W0.heap.size W0 w2 := hB1.trans (hb2.mono hB1.size); have hk1 := fun o => hB2.cell (p := ⟨w.heap.size, o, none⟩) hl1)
      | (go_at_call 30; refine (H3.out w2 (HRW.out.below hB2)).mono ?_; rintro e w3 ⟨A3, c3, rfl, ho3, hb3⟩; have HO3 := Lib.hid (own_rd ho3); have hB3 : Below W0.heap.size W0 w3 := hB2.trans (hb3.mono hB2.size); have hk1 := fun o => hB3.cell (p := ⟨w.heap.size, o, none⟩) hl1; clear ho3)
      | (go_at_call 31; refine (H4.out w3 (HRW.out.below hB3)).mono ?_; rintro e w4 ⟨A4, c4, rfl, ho4, hb4⟩; have HO4 := Lib.hid (own_rd ho4); have HO3' := Lib.hid (HO3.out.below hb4); have hB4 : Below W0.heap.size W0 w4 := hB3.trans (hb4.mono hB3.size); have hk1 := fun o => hB4.cell (p := ⟨w.heap.size, o, none⟩) hl1; clear ho4)
      | (go_at_call 29; refine (Ints_any A3 A4 c3 c4 us us w4 HUL.out HUL.out HO3'.out HO4.out).mono ?_; rintro e w5 ⟨rfl, hb5⟩; have hB5 : Below W0.heap.size W0 w5 := hB4.trans (hb5.mono hB4.size); have hk1 := fun o => hB5.cell (p := ⟨w.heap.size, o, none⟩) hl1)
      | (go_at_call 32; refine (H5.out w5).mono ?_; rintro e w6 ⟨rfl, hb6⟩; have hB6 : Below W0.heap.size W0 w6 := hB5.trans (hb6.mono hB5.size); have hk1 := fun o => hB6.cell (p := ⟨w.heap.size, o, none⟩) hl1)
      | (go_at_call 9; refine (awake23_any w6 (HTW.out.below hB6)).mono ?_; rintro e w7 ⟨rfl, hb7⟩; have hB7 : Below W0.heap.size W0 w7 := hB6.trans (hb7.mono hB6.size); have hk1 := fun o => hB7.cell (p := ⟨w.heap.size, o, none⟩) hl1))
    go_wp2
    go_ret
    exact ⟨rfl, HB0.out.trans (hB7.mono HB0.out.size)⟩


theorem LawCspN_any (q : Reqr) (l : List Cse) (w : World) (h : ReqAt w q l) (hcap : q.n ≤ q.c) (hn : l.length * 24 ≤ 140737488355328) (ht : TabT w) :
    Calls Tryd.prog 5 #[reqV q] w fun e w' => e = .returned (.bool true) ∧ Below w.heap.size w w' := by
  obtain ⟨kind, arg, value, dflt, A, n, c⟩ := q
  cases dflt
  · exact LawCspN_f kind arg value A n c l w h hcap hn ht
  · exact LawCspN_t kind arg value A n c l w h hcap hn ht

end Go.Proofs.YtmllbailfbjoeaaDoor
