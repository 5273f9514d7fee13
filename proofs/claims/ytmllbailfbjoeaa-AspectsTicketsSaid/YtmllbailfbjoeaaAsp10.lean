/- aspects: Wrong. -/
import Derived.Test.YtmllbailfbjoeaaAsp8
import Derived.Test.YtmllbailfbjoeaaAsp9
namespace Go.Proofs.Ytmllbailfbjoeaa
open Go.RowKit Go.Sort

def wrongS (l : List Kall) : Bool := decide (0 < (freshS l).length) || decide (0 < (twiceS l).length) || decide (0 < (passedS l).length) || decide (0 < (deniedS l).length)

set_option maxHeartbeats 4000000 in
set_option maxRecDepth 100000 in
theorem Wrong_any (A : Option Addr) (c : Nat) (ns : List Nte) (w : World) (hl : ns.length ≤ 1024) (hok : ThreadsOk ns) (hR : Rd w A (rows ns)) :
    Calls Try.prog 34 #[.slice A ns.length c] w fun e w' => e = .returned (.bool (wrongS (callsS ns))) ∧ Below w.heap.size w w' := by
  have HF := Lib.hid (Fresh_any A c ns w (by omega) hok hR)
  have HT := Lib.hid (fun W h => Twice_any A c ns W (by omega) hok h)
  have HP := Lib.hid (fun W h => Passed_any A c ns W hl hok h)
  have HD := Lib.hid (fun W h => Denied_any A c ns W (by omega) hok h)
  have HR := Lib.hid hR
  clear hok hR
  generalize ns.length = nn at *
  generalize callsS ns = l at *
  have HW : RowKit.Hid (wrongS l = (decide (0 < (freshS l).length) || decide (0 < (twiceS l).length) || decide (0 < (passedS l).length) || decide (0 < (deniedS l).length))) := Lib.hid rfl
  go_enter Try.func34, Try.ntmps34
  go_wp2_with fail
  refine HF.out.mono ?_
  rintro e w1 ⟨V1, c1, rfl, _, hb1⟩
  have HB1 := Lib.hid hb1
  clear hb1
  generalize (freshS l).length = n1 at *
  cases h1 : decide (0 < n1)
  · rw [h1] at HW
    go_wp2_with fail
    refine (HT.out _ (HR.out.below HB1.out)).mono ?_
    rintro e w2 ⟨V2, c2, rfl, _, _, _, hb2⟩
    have HB2 := Lib.hid (HB1.out.trans (hb2.mono HB1.out.size))
    clear hb2
    generalize (twiceS l).length = n2 at *
    cases h2 : decide (0 < n2)
    · rw [h2] at HW
      go_wp2_with fail
      refine (HP.out _ (HR.out.below HB2.out)).mono ?_
      rintro e w3 ⟨V3, c3, rfl, _, _, _, hb3⟩
      have HB3 := Lib.hid (HB2.out.trans (hb3.mono HB2.out.size))
      clear hb3
      generalize (passedS l).length = n3 at *
      cases h3 : decide (0 < n3)
      · rw [h3] at HW
        go_wp2_with fail
        refine (HD.out _ (HR.out.below HB3.out)).mono ?_
        rintro e w4 ⟨V4, c4, rfl, _, hb4⟩
        have HB4 := Lib.hid (HB3.out.trans (hb4.mono HB3.out.size))
        clear hb4
        generalize (deniedS l).length = n4 at *
        cases h4 : decide (0 < n4)
        all_goals
          rw [h4] at HW
          go_wp2
          go_ret
          exact ⟨ret_bool (by rw [HW.out]; rfl), HB4.out⟩
      · rw [h3] at HW
        go_wp2
        go_ret
        exact ⟨ret_bool (by rw [HW.out]; simp), HB3.out⟩
    · rw [h2] at HW
      go_wp2
      go_ret
      exact ⟨ret_bool (by rw [HW.out]; simp), HB2.out⟩
  · rw [h1] at HW
    go_wp2
    go_ret
    exact ⟨ret_bool (by rw [HW.out]; simp), HB1.out⟩

end Go.Proofs.Ytmllbailfbjoeaa
