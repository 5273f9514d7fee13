/- Function values that enter their text. -/
import Derived.Test.YtknlhkkpheahlaaDoorBase
namespace Go.Proofs.YtknlhkkpheahlaaDoor
open Go.RowKit

/-- The function is one with a text, and a call of it enters that. -/
def Enters (f : FuncId) : Prop := ∀ (args : Array Value) (w : World), Sem.run Tryd.prog (callFunc f args) w = .ok (.enter f args) w
theorem enters_of {f : FuncId} {fn : Func} (hf : Tryd.prog.funcs[f]? = some fn) (h1 : (fn.name == "runtime.NumGoroutine") = false) (h2 : fn.body.isNone = false) : Enters f := by
  intro args w
  simp only [beq_eq_false_iff_ne, ne_eq] at h1
  simp only [Option.isNone_eq_false_iff] at h2
  simp [callFunc, go_sem, hf, h1, Option.isSome_iff_ne_none.1 h2]

end Go.Proofs.YtknlhkkpheahlaaDoor
