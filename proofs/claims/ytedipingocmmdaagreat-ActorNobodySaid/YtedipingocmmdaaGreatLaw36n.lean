/- The law ActorNobody, walked. -/
import Derived.Test.YtedipingocmmdaaGreatAcRun
import Derived.Test.YtedipingocmmdaaGreatRow
import Derived.Test.YtedipingocmmdaaGreatEvA36
namespace Go.Proofs.YtedipingocmmdaaGreat
open Go.RowKit

set_option maxHeartbeats 4000000 in
set_option maxRecDepth 100000 in
theorem LawAn_any (z : Int) (A : Option Addr) (c : Nat) (l : List Int) (w : World) (hl : l.length ≤ maxLen) (hA : Rd w A (ints l)) :
    Calls Tryz.prog 6 #[.int .i64 z, .slice A l.length c] w fun e w' => e = .returned (.bool true) ∧ Below w.heap.size w w' := by
  have HA := Lib.hid hA
  have HL := Lib.hid hl
  clear hA hl
  have HAW := Lib.hid Ev.awake36_true
  generalize hn : l.length = n
  have HN := Lib.hid hn
  clear hn
  go_enter Tryz.func6, Tryz.ntmps6
  go_wp2
  have HZ0 := Lib.hid (show Blk ((w.alloc (.cells #[.pointer none, .slice none 0 0, .slice none 0 0, .slice none 0 0, .int .i64 0] 90)).alloc (.cells #[.pointer none, .pointer (some ⟨w.heap.size, 0, none⟩)] 91)) w.heap.size 90 [.pointer none, .slice none 0 0, .slice none 0 0, .slice none 0 0, .int .i64 0] from (Blk.new w 90 [.pointer none, .slice none 0 0, .slice none 0 0, .slice none 0 0, .int .i64 0]).alloc _)
  have HS0 := Lib.hid (show Blk ((w.alloc (.cells #[.pointer none, .slice none 0 0, .slice none 0 0, .slice none 0 0, .int .i64 0] 90)).alloc (.cells #[.pointer none, .pointer (some ⟨w.heap.size, 0, none⟩)] 91)) (w.heap.size + 1) 91 [.pointer none, .pointer (some ⟨w.heap.size, 0, none⟩)] from by
    have h := Blk.new (w.alloc (.cells #[.pointer none, .slice none 0 0, .slice none 0 0, .slice none 0 0, .int .i64 0] 90)) 91 [.pointer none, .pointer (some ⟨w.heap.size, 0, none⟩)]
    rw [show (w.alloc (.cells #[.pointer none, .slice none 0 0, .slice none 0 0, .slice none 0 0, .int .i64 0] 90)).heap.size = w.heap.size + 1 by simp] at h
    exact h)
  have HB0 := Lib.hid (show Below w.heap.size w ((w.alloc (.cells #[.pointer none, .slice none 0 0, .slice none 0 0, .slice none 0 0, .int .i64 0] 90)).alloc (.cells #[.pointer none, .pointer (some ⟨w.heap.size, 0, none⟩)] 91)) from ((Below.refl w.heap.size w).alloc (Nat.le_refl _) _).alloc (by simp) _)
  go_loopw [6, 12] (fun ok i wr => ∃ k : Nat, k ≤ 2 ∧ ok = .bool true ∧ i = .int .i64 k ∧ Below w.heap.size w wr ∧ Blk wr w.heap.size 90 [.pointer none, .slice none 0 0, .slice none 0 0, .slice none 0 0, .int .i64 0] ∧ Blk wr (w.heap.size + 1) 91 [.pointer none, .pointer (some ⟨w.heap.size, 0, none⟩)]) (fun _ i _ => 2 - (intOf i).toNat)
  case atStart => exact ⟨0, by omega, rfl, rfl, HB0.out, HZ0.out, HS0.out⟩
  case round =>
    obtain ⟨k, hk, rfl, rfl, hb, hz, hs⟩ := hrel
    have HB := Lib.hid hb
    have HZ := Lib.hid hz
    have HS := Lib.hid hs
    clear HB0 HZ0 HS0
    by_cases hlt : k < 2
    · have hp : ∃ p, wr.cell? ⟨w.heap.size + 1, k, none⟩ = some p ∧ NoPlay wr p := by
        have h2 : k = 0 ∨ k = 1 := by omega
        rcases h2 with rfl | rfl
        · exact ⟨_, HS.out.cell (i := 0) rfl, .inl rfl⟩
        · exact ⟨_, HS.out.cell (i := 1) rfl, .inr ⟨w.heap.size, rfl, HZ.out⟩⟩
      obtain ⟨p, x1, hp⟩ := hp
      have HP := Lib.hid hp
      have q1 : (0 : Int) ≤ (k : Int) := by omega
      have q2 : (k : Int) < 2 := by omega
      have hl1 := HS.out.lt
      clear hp hb hz hs
      go_wp2_with (first
        | (go_at_call 37; have HR0 := (Run_no HP.out A c l HL.out (HA.out.below HB.out)); rw [HN.out] at HR0; have HR1 := Lib.hid HR0; clear HR0; refine HR1.out.mono ?_; rintro e w1 ⟨rfl, hb1⟩; have HP1 := Lib.hid (NoPlay.below HP.out hb1); have HW1 := Lib.hid (hb1); have HB1 := Lib.hid (HB.out.trans (HW1.out.mono HB.out.size)); clear hb1)
        | (go_at_call 38; refine (Pick_no HP1.out z).mono ?_; rintro e w2 ⟨rfl, hb2⟩; have HP2 := Lib.hid (NoPlay.below HP1.out hb2); have HW2 := Lib.hid (HW1.out.trans (hb2.mono HW1.out.size)); have HB2 := Lib.hid (HB.out.trans (HW2.out.mono HB.out.size)); clear hb2)
        | (go_at_call 39; refine (Left_no HP2.out z).mono ?_; rintro e w3 ⟨rfl, hb3⟩; have HP3 := Lib.hid (NoPlay.below HP2.out hb3); have HW3 := Lib.hid (HW2.out.trans (hb3.mono HW2.out.size)); have HB3 := Lib.hid (HB.out.trans (HW3.out.mono HB.out.size)); clear hb3)
        | (go_at_call 40; refine (Said_no HP3.out z).mono ?_; rintro e w4 ⟨rfl, hb4⟩; have HP4 := Lib.hid (NoPlay.below HP3.out hb4); have HW4 := Lib.hid (HW3.out.trans (hb4.mono HW3.out.size)); have HB4 := Lib.hid (HB.out.trans (HW4.out.mono HB.out.size)); clear hb4)
        | (go_at_call 41; refine (Over_no HP4.out).mono ?_; rintro e w5 ⟨rfl, hb5⟩; have HP5 := Lib.hid (NoPlay.below HP4.out hb5); have HW5 := Lib.hid (HW4.out.trans (hb5.mono HW4.out.size)); have HB5 := Lib.hid (HB.out.trans (HW5.out.mono HB.out.size)); clear hb5)
        | (go_at_call 42; refine (Machine_no HP5.out).mono ?_; rintro e w6 ⟨rfl, hb6⟩; have HP6 := Lib.hid (NoPlay.below HP5.out hb6); have HW6 := Lib.hid (HW5.out.trans (hb6.mono HW5.out.size)); have HB6 := Lib.hid (HB.out.trans (HW6.out.mono HB.out.size)); clear hb6))
      go_roundw
      case rel =>
        refine ⟨k + 1, by omega, rfl, by go_num, HB6.out, ?_, ?_⟩
        · exact HZ.out.below HW6.out HZ.out.lt
        · exact HS.out.below HW6.out HS.out.lt
      case measure => simp [intOf]; omega
    · obtain rfl : k = 2 := by omega
      clear hb hz hs
      go_wp2_with (go_at_call 43; refine (HAW.out _).mono ?_; rintro e w1 ⟨rfl, hb1⟩)
      go_ret
      exact ⟨rfl, HB.out.trans (hb1.mono HB.out.size)⟩
end Go.Proofs.YtedipingocmmdaaGreat

