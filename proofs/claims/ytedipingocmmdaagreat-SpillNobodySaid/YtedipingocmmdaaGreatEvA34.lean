/- awake34, by the kernel. -/
import Derived.Test.YtedipingocmmdaaGreatEvPK
import Derived.Test.YtedipingocmmdaaGreatEvKn34
namespace Go.Proofs.YtedipingocmmdaaGreat.Ev
open Go Go.RowKit

set_option maxRecDepth 10000000 in
theorem awake34_says : (C.evC tabD (ktF kt34) 60 32 [] false 16 .leaf [] fun v _ _ _ => onBool v false fun b => b) = true := by kernel_rfl
theorem awake34_true (w : World) : Calls Tryz.prog 32 #[] w fun e w' => e = .returned (.bool true) ∧ Below w.heap.size w w' := saysC_of kt34_ok awake34_says w
end Go.Proofs.YtedipingocmmdaaGreat.Ev

