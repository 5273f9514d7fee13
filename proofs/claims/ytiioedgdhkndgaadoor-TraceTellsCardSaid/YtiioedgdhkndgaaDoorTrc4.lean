/- trace.At, walked: the accesses of one word. -/
import Derived.Test.YtiioedgdhkndgaaDoorTrc3
import Derived.Test.YtiioedgdhkndgaaDoorDelA
namespace Go.Proofs.YtiioedgdhkndgaaDoor
open Go.RowKit Go.Sort

theorem At1_enters : Enters 101 := enters_of Tryd.func101 (by kernel_rfl) (by kernel_rfl)

set_option maxHeartbeats 400000 in
theorem At1_any (a : Acc) (t : Int) (b : Nat) (w : World) (hc : w.cell? ⟨b, 0, none⟩ = some (.int .i64 t)) (hlt : b < w.heap.size) :
    Calls Tryd.prog 101 (#[accV a] ++ #[.pointer (some ⟨b, 0, none⟩)]) w fun e w' => e = .returned (.bool (a.addr != t)) ∧ Below w.heap.size w w' := by
  show Calls Tryd.prog 101 #[accV a, .pointer (some ⟨b, 0, none⟩)] w fun e w' => e = .returned (.bool (a.addr != t)) ∧ Below w.heap.size w w'
  unfold accV
  have hx := fun o => (World.cell?_alloc_lt w o ⟨b, 0, none⟩ hlt).trans hc
  go_enter Tryd.func101, Tryd.ntmps101
  go_wp2
  go_ret
  exact ⟨rfl, (Below.refl _ _).alloc (Nat.le_refl _) _⟩

theorem at_keep (t : Int) (l : List Acc) : (l.filter fun a => !(a.addr != t)) = l.filter (atB t) := by
  congr 1
  funext a
  simp [atB, bne]

set_option maxHeartbeats 1000000 in
set_option maxRecDepth 100000 in
theorem AtAcc_any (B : Option Addr) (c : Nat) (l : List Acc) (t : Int) (w : World) (hl : l.length ≤ 1048576) (hR : Rd w B (accs l)) :
    Calls Tryd.prog 56 #[.slice B l.length c, .int .i64 t] w (RetSel (l.filter (atB t)) w) := by
  have HR := Lib.hid hR
  have HC := Lib.hid (fun W h => CloneA_any B l.length c (accs l) W (by omega) (by rw [accs_length]) (rows_one l) h)
  have HD := Lib.hid (fun A c base W h1 h2 h3 => DelA_own A c base l 101 #[.pointer (some ⟨w.heap.size, 0, none⟩)] (fun a => a.addr != t) W hl h1 h2 At1_enters h3)
  rw [at_keep] at HD
  clear hR
  go_enter Tryd.func56, Tryd.ntmps56
  go_wp2_with fail
  refine (HC.out _ (HR.out.alloc _)).mono ?_
  rintro e w1 ⟨A, c1, rfl, hown, hb1⟩
  have hx := hb1.cell (p := ⟨w.heap.size, 0, none⟩) (by simp)
  simp at hx
  have hlt : w.heap.size < w1.heap.size := by have := hb1.size; simp at this; omega
  have hbs : w.heap.size + 1 ≤ w1.heap.size := hlt
  rw [World.size_alloc] at hown
  have HD1 := Lib.hid (HD.out A c1 (w.heap.size + 1) w1 hown hbs (fun x _ w' hb => At1_any x t w.heap.size w' ((hb.cell (p := ⟨w.heap.size, 0, none⟩) (Nat.lt_succ_self _)).trans hx) (Nat.lt_of_lt_of_le hlt hb.size)))
  have HB1 := Lib.hid (((Below.refl w.heap.size w).alloc (Nat.le_refl _) (.cells #[.int .i64 t] 3)).trans (hb1.mono (by simp)))
  clear hown hb1 HD HC
  go_wp2_with fail
  refine HD1.out.mono ?_
  rintro e w2 ⟨rfl, hr2, hb2⟩
  go_wp2
  go_ret
  exact ⟨A, c1, rfl, hr2, HB1.out.trans (hb2.mono (Nat.le_succ _))⟩

end Go.Proofs.YtiioedgdhkndgaaDoor
