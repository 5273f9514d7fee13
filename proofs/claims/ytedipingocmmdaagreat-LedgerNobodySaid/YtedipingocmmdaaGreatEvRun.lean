/- What the evaluator tells, asked for by one test. -/
import Derived.Test.YtedipingocmmdaaGreatEvO
namespace Go.Proofs.YtedipingocmmdaaGreat.Ev
open Go Go.RowKit

noncomputable def saysK (r : Res Value) : Bool := Res.rec false (fun v _ _ _ => onBool v false fun b => b) r
theorem says_ok {r : Res Value} (h : saysK r = true) : ∃ c H l, r = .ok (.bool true) c H l := by
  cases r with
  | no => cases h
  | ok v c H l =>
    replace h : onBool v false (fun b => b) = true := h
    cases v with
    | bool b => exact ⟨c, H, l, by rw [show b = true from h]⟩
    | _ => cases h
theorem says {f d : Nat} (h : saysK (evF tabF nobody d f [] false 16 .leaf []) = true) (w : World) : Calls Tryz.prog f #[] w fun e w' => e = .returned (.bool true) ∧ Below w.heap.size w w' := by
  obtain ⟨c, H, l, h⟩ := says_ok h
  exact ev_calls (ev_ok d) h w
end Go.Proofs.YtedipingocmmdaaGreat.Ev

