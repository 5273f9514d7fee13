/-
  No cell of these rows narrows 'for every input' (looked for: loops, veiled, ifaces, maps, wideKeys, modest, calm, conditions, laid).
  DERIVED. THE GIVEN ROWS OF THIS SEAT. 7 by the template 'for every input the law returns true; each argument reads behind the call as it read before'; 0 by the template 'total and deterministic' (their statements: YtmllbailfbjoeaaTotals.lean).
  GIVEN WITH THE SEED: the statements are not yours to turn. If you find one false, say at which input.
  Laid BY PROGRAM, IN A SANDBOX (cutbox-rows.mjs): the forced cells as the released guide's own fill.sh prints them over the translation c54559b84ce72a55… (all of the seat's roots in one cut). By AI agents, Wed Nov 11 2026. No macro, syntax, notation, axiom, sorry.
-/
import Derived.Test.YtmllbailfbjoeaaChecked
import GoSem.Claim
import GoSem.ClaimJoined
import GoSem.ClaimMapViews
import Derived.JoinedTies
import Derived.KernelRfl
namespace Go.Proofs.Ytmllbailfbjoeaa
/- THE CELL 'sum', in the pinned program and in every row, IS THE sha256 OF THE DUMP (.gsa) THAT YtmllbailfbjoeaaProg.lean LOADS. Nothing in Lean hashes anything: it is a label: what it is worth is what the hold of that sum in a sandbox is worth. -/
noncomputable def Try.pinned : Pinned := { name := "ytmllbailfbjoeaa", sum := "c54559b84ce72a552e0722ab5347900d518634a3a2dbc74e4b57c80ca01af330", checked := Try.checked }
namespace Rows
def none {H : Type} : Left H := { results := [], args := [] }

/-- 'stopgatelaw21.BoundLine': WHATEVER THE INPUT: true; the input reads as it did. -/
def boundLineSpec : ChangeSpec := { name := "boundLine", fn := fun _ => fun
  | [d1, d2] => { results := [.lit (.bool true)], args := [d1, d2] }
  | _ => none }
def boundLineRow : OpenClaim := { program := "ytmllbailfbjoeaa", sum := "c54559b84ce72a552e0722ab5347900d518634a3a2dbc74e4b57c80ca01af330", func := "stopgate/stopgatelaw21.BoundLine", spec := "boundLine", unfollowed := true, recurses := true, apart := false }
def BoundLineSaid : Prop := boundLineRow.holds Try.pinned (OpenSpec.ofChange boundLineSpec)

/-- ITS FALSE NEIGHBOUR: 'it returns false'. Refute it at one input. -/
def boundLineWrong : ChangeSpec := { name := "boundLine", fn := fun _ => fun
  | [d1, d2] => { results := [.lit (.bool false)], args := [d1, d2] }
  | _ => none }
def BoundLineWrongFalsely : Prop := boundLineRow.holds Try.pinned (OpenSpec.ofChange boundLineWrong)

/-- 'stopgatelaw21.BoundTells': WHATEVER THE INPUT: true; the input reads as it did. -/
def boundTellsSpec : ChangeSpec := { name := "boundTells", fn := fun _ => fun
  | [d] => { results := [.lit (.bool true)], args := [d] }
  | _ => none }
def boundTellsRow : OpenClaim := { program := "ytmllbailfbjoeaa", sum := "c54559b84ce72a552e0722ab5347900d518634a3a2dbc74e4b57c80ca01af330", func := "stopgate/stopgatelaw21.BoundTells", spec := "boundTells", unfollowed := true, recurses := true, apart := false }
def BoundTellsSaid : Prop := boundTellsRow.holds Try.pinned (OpenSpec.ofChange boundTellsSpec)

/-- ITS FALSE NEIGHBOUR: 'it returns false'. Refute it at one input. -/
def boundTellsWrong : ChangeSpec := { name := "boundTells", fn := fun _ => fun
  | [d] => { results := [.lit (.bool false)], args := [d] }
  | _ => none }
def BoundTellsWrongFalsely : Prop := boundTellsRow.holds Try.pinned (OpenSpec.ofChange boundTellsWrong)

/-- 'stopgatelaw43.AspectsTell': WHATEVER THE INPUT: true; the input reads as it did. -/
def aspectsTellSpec : ChangeSpec := { name := "aspectsTell", fn := fun _ => fun
  | [d] => { results := [.lit (.bool true)], args := [d] }
  | _ => none }
def aspectsTellRow : OpenClaim := { program := "ytmllbailfbjoeaa", sum := "c54559b84ce72a552e0722ab5347900d518634a3a2dbc74e4b57c80ca01af330", func := "stopgate/stopgatelaw43.AspectsTell", spec := "aspectsTell", unfollowed := true, recurses := true, apart := false }
def AspectsTellSaid : Prop := aspectsTellRow.holds Try.pinned (OpenSpec.ofChange aspectsTellSpec)

/-- ITS FALSE NEIGHBOUR: 'it returns false'. Refute it at one input. -/
def aspectsTellWrong : ChangeSpec := { name := "aspectsTell", fn := fun _ => fun
  | [d] => { results := [.lit (.bool false)], args := [d] }
  | _ => none }
def AspectsTellWrongFalsely : Prop := aspectsTellRow.holds Try.pinned (OpenSpec.ofChange aspectsTellWrong)

/-- 'stopgatelaw28.CommuteTells': WHATEVER THE INPUT: true; the input reads as it did. -/
def commuteTellsSpec : ChangeSpec := { name := "commuteTells", fn := fun _ => fun
  | [d1, d2, d3, d4] => { results := [.lit (.bool true)], args := [d1, d2, d3, d4] }
  | _ => none }
def commuteTellsRow : OpenClaim := { program := "ytmllbailfbjoeaa", sum := "c54559b84ce72a552e0722ab5347900d518634a3a2dbc74e4b57c80ca01af330", func := "stopgate/stopgatelaw28.CommuteTells", spec := "commuteTells", unfollowed := true, recurses := true, apart := false }
def CommuteTellsSaid : Prop := commuteTellsRow.holds Try.pinned (OpenSpec.ofChange commuteTellsSpec)

/-- ITS FALSE NEIGHBOUR: 'it returns false'. Refute it at one input. -/
def commuteTellsWrong : ChangeSpec := { name := "commuteTells", fn := fun _ => fun
  | [d1, d2, d3, d4] => { results := [.lit (.bool false)], args := [d1, d2, d3, d4] }
  | _ => none }
def CommuteTellsWrongFalsely : Prop := commuteTellsRow.holds Try.pinned (OpenSpec.ofChange commuteTellsWrong)

/-- 'stopgatelaw28.CommuteNormal': WHATEVER THE INPUT: true; the input reads as it did. -/
def commuteNormalSpec : ChangeSpec := { name := "commuteNormal", fn := fun _ => fun
  | [d1, d2] => { results := [.lit (.bool true)], args := [d1, d2] }
  | _ => none }
def commuteNormalRow : OpenClaim := { program := "ytmllbailfbjoeaa", sum := "c54559b84ce72a552e0722ab5347900d518634a3a2dbc74e4b57c80ca01af330", func := "stopgate/stopgatelaw28.CommuteNormal", spec := "commuteNormal", unfollowed := true, recurses := true, apart := false }
def CommuteNormalSaid : Prop := commuteNormalRow.holds Try.pinned (OpenSpec.ofChange commuteNormalSpec)

/-- ITS FALSE NEIGHBOUR: 'it returns false'. Refute it at one input. -/
def commuteNormalWrong : ChangeSpec := { name := "commuteNormal", fn := fun _ => fun
  | [d1, d2] => { results := [.lit (.bool false)], args := [d1, d2] }
  | _ => none }
def CommuteNormalWrongFalsely : Prop := commuteNormalRow.holds Try.pinned (OpenSpec.ofChange commuteNormalWrong)

/-- 'stopgatelaw28.CommuteSame': WHATEVER THE INPUT: true; the input reads as it did. -/
def commuteSameSpec : ChangeSpec := { name := "commuteSame", fn := fun _ => fun
  | [d1, d2, d3] => { results := [.lit (.bool true)], args := [d1, d2, d3] }
  | _ => none }
def commuteSameRow : OpenClaim := { program := "ytmllbailfbjoeaa", sum := "c54559b84ce72a552e0722ab5347900d518634a3a2dbc74e4b57c80ca01af330", func := "stopgate/stopgatelaw28.CommuteSame", spec := "commuteSame", unfollowed := true, recurses := true, apart := false }
def CommuteSameSaid : Prop := commuteSameRow.holds Try.pinned (OpenSpec.ofChange commuteSameSpec)

/-- ITS FALSE NEIGHBOUR: 'it returns false'. Refute it at one input. -/
def commuteSameWrong : ChangeSpec := { name := "commuteSame", fn := fun _ => fun
  | [d1, d2, d3] => { results := [.lit (.bool false)], args := [d1, d2, d3] }
  | _ => none }
def CommuteSameWrongFalsely : Prop := commuteSameRow.holds Try.pinned (OpenSpec.ofChange commuteSameWrong)

/-- 'stopgatelaw43.AspectsTickets': WHATEVER THE INPUT: true; the input reads as it did. -/
def aspectsTicketsSpec : ChangeSpec := { name := "aspectsTickets", fn := fun _ => fun
  | [d1, d2, d3, d4] => { results := [.lit (.bool true)], args := [d1, d2, d3, d4] }
  | _ => none }
def aspectsTicketsRow : OpenClaim := { program := "ytmllbailfbjoeaa", sum := "c54559b84ce72a552e0722ab5347900d518634a3a2dbc74e4b57c80ca01af330", func := "stopgate/stopgatelaw43.AspectsTickets", spec := "aspectsTickets", unfollowed := true, recurses := true, apart := false }
def AspectsTicketsSaid : Prop := aspectsTicketsRow.holds Try.pinned (OpenSpec.ofChange aspectsTicketsSpec)

/-- ITS FALSE NEIGHBOUR: 'it returns false'. Refute it at one input. -/
def aspectsTicketsWrong : ChangeSpec := { name := "aspectsTickets", fn := fun _ => fun
  | [d1, d2, d3, d4] => { results := [.lit (.bool false)], args := [d1, d2, d3, d4] }
  | _ => none }
def AspectsTicketsWrongFalsely : Prop := aspectsTicketsRow.holds Try.pinned (OpenSpec.ofChange aspectsTicketsWrong)

/- THE SECOND FORM. 'bulk': how many values and letters a reading holds, each counted each time it is reached (what is shared counts as often as it is met; a slice's spare places count too). A statement '..UptoSaid' is the law's where the arguments, and the package variables that the reading takes, are together of bulk at most 1048576: NARROWER than '..Said'. Prove '..Said' where nothing that the law and all that it calls make is longer than what came in: it says more and counts as full. Else prove '..UptoSaid'. A law counts once. -/
mutual
def uptoBulk {H : Type} : DataW H → Nat
  | .lit (.string bytes) => bytes.length + 1
  | .lit _ => 1
  | .nil => 1
  | .ptr d => uptoBulk d + 1
  | .slice elems spare => uptoBulkAll elems + uptoBulkAll spare + 1
  | .agg parts => uptoBulkAll parts + 1
  | .iface _ d => uptoBulk d + 1
  | .map entries => uptoBulkEntries entries + 1
  | .held _ => 1
def uptoBulkAll {H : Type} : List (DataW H) → Nat
  | [] => 0
  | d :: r => uptoBulk d + uptoBulkAll r
def uptoBulkEntries {H : Type} : List (Lit × DataW H) → Nat
  | [] => 0
  | x :: r => uptoBulkEntry x + uptoBulkEntries r
def uptoBulkEntry {H : Type} : Lit × DataW H → Nat
  | (.string bytes, d) => bytes.length + uptoBulk d + 1
  | (_, d) => uptoBulk d + 1
 end
def uptoSmall : (H : Type) → List (DataW H) → Bool := fun _ ds => decide (uptoBulkAll ds ≤ 1048576)
def OpenSpec.upto (s : _root_.Go.ChangeSpec) : _root_.Go.OpenSpec := { _root_.Go.OpenSpec.ofChange s with cond := some uptoSmall }

/-- 'stopgatelaw21.BoundLine', WHERE WHAT IT READS IS OF BULK AT MOST 1048576: true; the input reads as it did. -/
def boundLineUptoRow : OpenClaim := { program := "ytmllbailfbjoeaa", sum := "c54559b84ce72a552e0722ab5347900d518634a3a2dbc74e4b57c80ca01af330", func := "stopgate/stopgatelaw21.BoundLine", spec := "boundLine", unfollowed := true, recurses := true, apart := false, narrowed := true }
def BoundLineUptoSaid : Prop := boundLineUptoRow.holds Try.pinned (OpenSpec.upto boundLineSpec)

/-- 'stopgatelaw21.BoundTells', WHERE WHAT IT READS IS OF BULK AT MOST 1048576: true; the input reads as it did. -/
def boundTellsUptoRow : OpenClaim := { program := "ytmllbailfbjoeaa", sum := "c54559b84ce72a552e0722ab5347900d518634a3a2dbc74e4b57c80ca01af330", func := "stopgate/stopgatelaw21.BoundTells", spec := "boundTells", unfollowed := true, recurses := true, apart := false, narrowed := true }
def BoundTellsUptoSaid : Prop := boundTellsUptoRow.holds Try.pinned (OpenSpec.upto boundTellsSpec)

/-- 'stopgatelaw43.AspectsTell', WHERE WHAT IT READS IS OF BULK AT MOST 1048576: true; the input reads as it did. -/
def aspectsTellUptoRow : OpenClaim := { program := "ytmllbailfbjoeaa", sum := "c54559b84ce72a552e0722ab5347900d518634a3a2dbc74e4b57c80ca01af330", func := "stopgate/stopgatelaw43.AspectsTell", spec := "aspectsTell", unfollowed := true, recurses := true, apart := false, narrowed := true }
def AspectsTellUptoSaid : Prop := aspectsTellUptoRow.holds Try.pinned (OpenSpec.upto aspectsTellSpec)

/-- 'stopgatelaw28.CommuteTells', WHERE WHAT IT READS IS OF BULK AT MOST 1048576: true; the input reads as it did. -/
def commuteTellsUptoRow : OpenClaim := { program := "ytmllbailfbjoeaa", sum := "c54559b84ce72a552e0722ab5347900d518634a3a2dbc74e4b57c80ca01af330", func := "stopgate/stopgatelaw28.CommuteTells", spec := "commuteTells", unfollowed := true, recurses := true, apart := false, narrowed := true }
def CommuteTellsUptoSaid : Prop := commuteTellsUptoRow.holds Try.pinned (OpenSpec.upto commuteTellsSpec)

/-- 'stopgatelaw28.CommuteNormal', WHERE WHAT IT READS IS OF BULK AT MOST 1048576: true; the input reads as it did. -/
def commuteNormalUptoRow : OpenClaim := { program := "ytmllbailfbjoeaa", sum := "c54559b84ce72a552e0722ab5347900d518634a3a2dbc74e4b57c80ca01af330", func := "stopgate/stopgatelaw28.CommuteNormal", spec := "commuteNormal", unfollowed := true, recurses := true, apart := false, narrowed := true }
def CommuteNormalUptoSaid : Prop := commuteNormalUptoRow.holds Try.pinned (OpenSpec.upto commuteNormalSpec)

/-- 'stopgatelaw28.CommuteSame', WHERE WHAT IT READS IS OF BULK AT MOST 1048576: true; the input reads as it did. -/
def commuteSameUptoRow : OpenClaim := { program := "ytmllbailfbjoeaa", sum := "c54559b84ce72a552e0722ab5347900d518634a3a2dbc74e4b57c80ca01af330", func := "stopgate/stopgatelaw28.CommuteSame", spec := "commuteSame", unfollowed := true, recurses := true, apart := false, narrowed := true }
def CommuteSameUptoSaid : Prop := commuteSameUptoRow.holds Try.pinned (OpenSpec.upto commuteSameSpec)

/-- 'stopgatelaw43.AspectsTickets', WHERE WHAT IT READS IS OF BULK AT MOST 1048576: true; the input reads as it did. -/
def aspectsTicketsUptoRow : OpenClaim := { program := "ytmllbailfbjoeaa", sum := "c54559b84ce72a552e0722ab5347900d518634a3a2dbc74e4b57c80ca01af330", func := "stopgate/stopgatelaw43.AspectsTickets", spec := "aspectsTickets", unfollowed := true, recurses := true, apart := false, narrowed := true }
def AspectsTicketsUptoSaid : Prop := aspectsTicketsUptoRow.holds Try.pinned (OpenSpec.upto aspectsTicketsSpec)

end Rows
end Go.Proofs.Ytmllbailfbjoeaa
