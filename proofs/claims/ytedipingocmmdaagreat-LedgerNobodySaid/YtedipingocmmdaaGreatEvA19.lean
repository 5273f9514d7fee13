/- awake19, by the kernel. -/
import Derived.Test.YtedipingocmmdaaGreatKn19
namespace Go.Proofs.YtedipingocmmdaaGreat.Ev
open Go Go.RowKit

set_option maxRecDepth 10000000 in
theorem awake19_says : saysT (C.evX tabD R19 60 36 []) = true := by kernel_rfl
theorem awake19_true (w : World) : Calls Tryz.prog 36 #[] w fun e w' => e = .returned (.bool true) ∧ Below w.heap.size w w' := saysY_of R19_ok awake19_says w
end Go.Proofs.YtedipingocmmdaaGreat.Ev

