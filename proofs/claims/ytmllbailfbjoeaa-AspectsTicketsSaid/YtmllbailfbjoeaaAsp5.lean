/- aspects: Settled. -/
import Derived.Test.YtmllbailfbjoeaaAsp4
namespace Go.Proofs.Ytmllbailfbjoeaa
open Go.RowKit Go.Sort

set_option maxHeartbeats 400000 in
theorem settled1_any (x : Kall) (w : World) : Calls Try.prog 80 #[kallV x] w fun e w' => e = .returned (.bool x.opn) ∧ Below w.heap.size w w' := by
  unfold kallV
  go_enter Try.func80, Try.ntmps80
  go_wp2
  go_ret
  exact ⟨rfl, (Below.refl _ _).alloc (Nat.le_refl _) _⟩
theorem settled1_enters : Enters 80 := enters_of Try.func80 (by kernel_rfl) (by kernel_rfl)

set_option maxHeartbeats 1000000 in
theorem Settled_any (A : Option Addr) (c : Nat) (ns : List Nte) (w : World) (hl : ns.length ≤ 1048576) (hok : ThreadsOk ns) (hR : Rd w A (rows ns)) :
    Calls Try.prog 33 #[.slice A ns.length c] w fun e w' => e = .returned (.bool (!(callsS ns).any Kall.opn)) ∧ Below w.heap.size w w' := by
  have HC := Lib.hid (calls_any A c ns w hl hok hR)
  have hcl := calls_len ns
  clear hok hR
  generalize ns.length = nn at *
  generalize callsS ns = l at *
  have HH := Lib.hid (fun A1 c1 W h1 h2 => HasK_any A1 c1 l 80 #[] Kall.opn W (by unfold maxLen; omega) h1 settled1_enters h2)
  go_enter Try.func33, Try.ntmps33
  go_wp2_with fail
  refine HC.out.mono ?_
  rintro e w1 ⟨L, cl, rfl, hrd, _, _, hb1⟩
  have HHH := Lib.hid (HH.out L cl w1 hrd (fun x _ w' _ => settled1_any x w'))
  clear hrd HH
  go_wp2_with fail
  refine HHH.out.mono ?_
  rintro e w2 ⟨rfl, hb2⟩
  go_wp2
  go_ret
  exact ⟨rfl, hb1.trans (hb2.mono hb1.size)⟩

end Go.Proofs.Ytmllbailfbjoeaa
