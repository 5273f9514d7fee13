/- MachineNobody, but for the example, by the kernel: whatever the number, whatever the event. -/
import Derived.Test.YtedipingocmmdaaGreatEvExt
namespace Go.Proofs.YtedipingocmmdaaGreat.Ev
open Go

set_option maxRecDepth 10000000 in
theorem mn_all (z : Int) (x0 x1 x2 x3 x4 x5 x6 x7 x8 : Value) : saysT (C.evC tabD (oneK 23) 40 3 [.int .i64 z, .agg ⟨[x0, x1, x2, x3, x4, x5, x6, x7, x8]⟩]) = true := by kernel_rfl
end Go.Proofs.YtedipingocmmdaaGreat.Ev

