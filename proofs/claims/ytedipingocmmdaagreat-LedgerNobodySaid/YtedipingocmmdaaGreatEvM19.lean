/- LedgerNobody, but for the example, by the kernel: whatever the number. -/
import Derived.Test.YtedipingocmmdaaGreatEvExt
namespace Go.Proofs.YtedipingocmmdaaGreat.Ev
open Go

set_option maxRecDepth 10000000 in
theorem ln_all (z0 : Int) : saysT (C.evC tabD (oneK 36) 60 5 [.int .i64 z0]) = true := by kernel_rfl
end Go.Proofs.YtedipingocmmdaaGreat.Ev

