/- stopgateplain.Shape at two shapes that are the same but for where their starts lie. -/
import Derived.Test.YtknlhkkpheahlaaDoorSize
import Derived.Test.YtknlhkkpheahlaaDoorEqI
namespace Go.Proofs.YtknlhkkpheahlaaDoor
open Go.RowKit Go.Sort

set_option maxHeartbeats 8000000 in
set_option maxRecDepth 100000 in
theorem Shape_same (c : Cfg) (A : Option Addr) (k : Nat) (w : World) (h1 : CfgIn w c) (h2 : Rd w A (ints c.start)) :
    Calls Tryd.prog 26 #[cfgV c, cfgV { c with sa := A, sc := k }] w fun e w' => e = .returned (.bool true) ∧ Below w.heap.size w w' := by
  have HI := Lib.hid (fun W hA hB => Ints_any c.sa A c.sc k c.start c.start W h1.2 h1.2 hA hB)
  have H1 := Lib.hid h1.1
  have H2 := Lib.hid h2
  clear h1 h2
  go_enter Tryd.func26, Tryd.ntmps26
  go_wp2_with (go_at_call 67; refine (HI.out _ ((H1.out.alloc _).alloc _) ((H2.out.alloc _).alloc _)).mono ?_; rintro e w1 ⟨rfl, hb1⟩)
  go_ret
  exact ⟨by simp, (((Below.refl _ _).alloc (Nat.le_refl _) _).alloc (by simp) _).trans (hb1.mono (by simp; omega))⟩

end Go.Proofs.YtknlhkkpheahlaaDoor
