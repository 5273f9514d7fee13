/- awake36, by the kernel. -/
import Derived.Test.YtedipingocmmdaaGreatEvPK
import Derived.Test.YtedipingocmmdaaGreatEvKn36
namespace Go.Proofs.YtedipingocmmdaaGreat.Ev
open Go Go.RowKit

set_option maxRecDepth 10000000 in
theorem awake36_says : (C.evC tabD (ktF kt36) 60 43 [] false 16 .leaf [] fun v _ _ _ => onBool v false fun b => b) = true := by kernel_rfl
theorem awake36_true (w : World) : Calls Tryz.prog 43 #[] w fun e w' => e = .returned (.bool true) ∧ Below w.heap.size w w' := saysC_of kt36_ok awake36_says w
end Go.Proofs.YtedipingocmmdaaGreat.Ev

