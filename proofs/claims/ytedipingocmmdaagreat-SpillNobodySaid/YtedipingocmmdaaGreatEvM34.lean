/- SpillNobody, but for the example, by the kernel: whatever the numbers. -/
import Derived.Test.YtedipingocmmdaaGreatEvExt
namespace Go.Proofs.YtedipingocmmdaaGreat.Ev
open Go

set_option maxRecDepth 10000000 in
theorem sn_all (z0 z1 z2 : Int) : saysT (C.evC tabD (oneK 32) 60 4 [.int .i64 z0, .int .i64 z1, .int .i64 z2]) = true := by kernel_rfl
end Go.Proofs.YtedipingocmmdaaGreat.Ev

