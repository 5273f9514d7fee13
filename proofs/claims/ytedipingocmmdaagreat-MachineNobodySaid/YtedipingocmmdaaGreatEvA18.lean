/- awake18, by the kernel. -/
import Derived.Test.YtedipingocmmdaaGreatEvPK
namespace Go.Proofs.YtedipingocmmdaaGreat.Ev
open Go Go.RowKit

set_option maxRecDepth 10000000 in
theorem awake18_says : (C.evC tabD (ktF .leaf) 60 23 [] false 16 .leaf [] fun v _ _ _ => onBool v false fun b => b) = true := by kernel_rfl
theorem awake18_true (w : World) : Calls Tryz.prog 23 #[] w fun e w' => e = .returned (.bool true) ∧ Below w.heap.size w w' := saysC_of (t := .leaf) trivial awake18_says w
end Go.Proofs.YtedipingocmmdaaGreat.Ev

