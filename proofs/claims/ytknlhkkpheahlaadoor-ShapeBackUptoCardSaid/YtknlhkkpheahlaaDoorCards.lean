/-
  DERIVED. GIVEN WITH THE SEED: THE CARDS: each row of YtknlhkkpheahlaaDoorRows.lean that lists a variable, with what it lists TIED to the program's text (the seventh form; the later family's looks); each row that meets fmt, with fmt's text TOLD by the authors' own Lean function (tested against real Go, not proved from fmt's source: count such statements apart). THE CARD IS WHAT COUNTS. Prove the row's statement (the work); the ties are given (YtknlhkkpheahlaaDoorTie.lean); close each card by the builder's one call (the guide's Derived/Test/ToyasCard.lean, 'card_holds'). Laid BY PROGRAM, IN A SANDBOX (cutbox-door.mjs). By AI agents, Wed Nov 11 2026. No macro, syntax, notation, axiom, sorry.
-/
import Derived.Test.YtknlhkkpheahlaaDoorRows
import GoSem.ClaimSeven
namespace Go.Proofs.YtknlhkkpheahlaaDoor
namespace Rows

/-- THE TIED CARD OF 'stopgatelaw23.CspAnswers'. -/
def cspAnswersCard : Claim7 := { stood := { row := cspAnswersRow, standIns := [], harness := (true, "af65ed1e76fd5aa298eedcb8594b2af9d1d40d1dfadcb5d14d394d787eeda9be"), looks := true }, kinds := [], alts := [], laidByText := true, laidKinds := [.data, .data, .data, .handle], laidTests := true, laidLooks := .later }
def CspAnswersCardSaid : Prop := Claim7.holds Tryd.pinned (.plain (OpenSpec.ofChange cspAnswersSpec)) cspAnswersCard

/-- THE TIED CARD OF 'stopgatelaw25.ViewWords'. -/
def viewWordsCard : Claim7 := { stood := { row := viewWordsRow, standIns := [], harness := (true, "af65ed1e76fd5aa298eedcb8594b2af9d1d40d1dfadcb5d14d394d787eeda9be"), looks := true }, kinds := [], alts := [], laidByText := true, laidKinds := [.data, .data, .data], laidTests := true, laidLooks := .later }
def ViewWordsCardSaid : Prop := Claim7.holds Tryd.pinned (.plain (OpenSpec.ofChange viewWordsSpec)) viewWordsCard

/-- THE TIED CARD OF 'stopgatelaw40.ShapeBack'. -/
def shapeBackCard : Claim7 := { stood := { row := shapeBackRow, standIns := [], harness := (true, "af65ed1e76fd5aa298eedcb8594b2af9d1d40d1dfadcb5d14d394d787eeda9be"), looks := true }, kinds := [], alts := [], laidByText := true, laidKinds := [.data, .data, .data, .data, .sentinel, .sentinel, .pinned], laidTests := true, laidLooks := .later }
def ShapeBackCardSaid : Prop := Claim7.holds Tryd.pinned (.plain (OpenSpec.ofChange shapeBackSpec)) shapeBackCard

/-- THE SECOND FORM's CARD OF 'stopgatelaw23.CspAnswers'. -/
def cspAnswersUptoCard : Claim7 := { stood := { row := cspAnswersUptoRow, standIns := [], harness := (true, "af65ed1e76fd5aa298eedcb8594b2af9d1d40d1dfadcb5d14d394d787eeda9be"), looks := true }, kinds := [], alts := [], laidByText := true, laidKinds := [.data, .data, .data, .handle], laidTests := true, laidLooks := .later }
def CspAnswersUptoCardSaid : Prop := Claim7.holds Tryd.pinned (.plain (OpenSpec.upto cspAnswersSpec)) cspAnswersUptoCard

/-- THE SECOND FORM's CARD OF 'stopgatelaw25.ViewWords'. -/
def viewWordsUptoCard : Claim7 := { stood := { row := viewWordsUptoRow, standIns := [], harness := (true, "af65ed1e76fd5aa298eedcb8594b2af9d1d40d1dfadcb5d14d394d787eeda9be"), looks := true }, kinds := [], alts := [], laidByText := true, laidKinds := [.data, .data, .data], laidTests := true, laidLooks := .later }
def ViewWordsUptoCardSaid : Prop := Claim7.holds Tryd.pinned (.plain (OpenSpec.upto viewWordsSpec)) viewWordsUptoCard

/-- THE SECOND FORM's CARD OF 'stopgatelaw40.ShapeBack'. -/
def shapeBackUptoCard : Claim7 := { stood := { row := shapeBackUptoRow, standIns := [], harness := (true, "af65ed1e76fd5aa298eedcb8594b2af9d1d40d1dfadcb5d14d394d787eeda9be"), looks := true }, kinds := [], alts := [], laidByText := true, laidKinds := [.data, .data, .data, .data, .sentinel, .sentinel, .pinned], laidTests := true, laidLooks := .later }
def ShapeBackUptoCardSaid : Prop := Claim7.holds Tryd.pinned (.plain (OpenSpec.upto shapeBackSpec)) shapeBackUptoCard
end Rows
end Go.Proofs.YtknlhkkpheahlaaDoor
