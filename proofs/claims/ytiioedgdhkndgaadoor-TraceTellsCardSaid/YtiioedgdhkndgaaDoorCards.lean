/-
  DERIVED. GIVEN WITH THE SEED: THE CARDS: each row of YtiioedgdhkndgaaDoorRows.lean that lists a variable, with what it lists TIED to the program's text (the seventh form; the later family's looks); each row that meets fmt, with fmt's text TOLD by the authors' own Lean function (tested against real Go, not proved from fmt's source: count such statements apart). THE CARD IS WHAT COUNTS. Prove the row's statement (the work); the ties are given (YtiioedgdhkndgaaDoorTie.lean); close each card by the builder's one call (the guide's Derived/Test/ToyasCard.lean, 'card_holds'). Laid BY PROGRAM, IN A SANDBOX (cutbox-door.mjs). By AI agents, Wed Nov 11 2026. No macro, syntax, notation, axiom, sorry.
-/
import Derived.Test.YtiioedgdhkndgaaDoorRows
import GoSem.ClaimSeven
namespace Go.Proofs.YtiioedgdhkndgaaDoor
namespace Rows

/-- THE TIED CARD OF 'stopgatelaw04.FaultNumbers'. -/
def faultNumbersCard : Claim7 := { stood := { row := faultNumbersRow, standIns := [], harness := (true, "eb380fabdb0c5ceff3b9a130d53ae9bacf4d0a2cf388d6300ced34cf6e2d85b8"), looks := true }, kinds := [], alts := [], laidByText := true, laidKinds := [.data, .data, .data, .handle], laidTests := true, laidLooks := .later }
def FaultNumbersCardSaid : Prop := Claim7.holds Tryd.pinned (.plain (OpenSpec.ofChange faultNumbersSpec)) faultNumbersCard

/-- THE TIED CARD OF 'stopgatelaw04.FaultNone'. -/
def faultNoneCard : Claim7 := { stood := { row := faultNoneRow, standIns := [], harness := (true, "eb380fabdb0c5ceff3b9a130d53ae9bacf4d0a2cf388d6300ced34cf6e2d85b8"), looks := true }, kinds := [], alts := [], laidByText := true, laidKinds := [.data, .data, .data, .handle], laidTests := true, laidLooks := .later }
def FaultNoneCardSaid : Prop := Claim7.holds Tryd.pinned (.plain (OpenSpec.ofChange faultNoneSpec)) faultNoneCard

/-- THE TIED CARD OF 'stopgatelaw23.CspAnswers'. -/
def cspAnswersCard : Claim7 := { stood := { row := cspAnswersRow, standIns := [], harness := (true, "eb380fabdb0c5ceff3b9a130d53ae9bacf4d0a2cf388d6300ced34cf6e2d85b8"), looks := true }, kinds := [], alts := [], laidByText := true, laidKinds := [.data, .data, .data, .handle], laidTests := true, laidLooks := .later }
def CspAnswersCardSaid : Prop := Claim7.holds Tryd.pinned (.plain (OpenSpec.ofChange cspAnswersSpec)) cspAnswersCard

/-- THE TIED CARD OF 'stopgatelaw25.ViewWords'. -/
def viewWordsCard : Claim7 := { stood := { row := viewWordsRow, standIns := [], harness := (true, "eb380fabdb0c5ceff3b9a130d53ae9bacf4d0a2cf388d6300ced34cf6e2d85b8"), looks := true }, kinds := [], alts := [], laidByText := true, laidKinds := [.data, .data, .data], laidTests := true, laidLooks := .later }
def ViewWordsCardSaid : Prop := Claim7.holds Tryd.pinned (.plain (OpenSpec.ofChange viewWordsSpec)) viewWordsCard

/-- THE TIED CARD OF 'stopgatelaw27.TraceRedo'. -/
def traceRedoCard : Claim7 := { stood := { row := traceRedoRow, standIns := [], harness := (true, "eb380fabdb0c5ceff3b9a130d53ae9bacf4d0a2cf388d6300ced34cf6e2d85b8"), looks := true }, kinds := [], alts := [], laidByText := true, laidKinds := [.data, .data, .data], laidTests := true, laidLooks := .later }
def TraceRedoCardSaid : Prop := Claim7.holds Tryd.pinned (.plain (OpenSpec.ofChange traceRedoSpec)) traceRedoCard

/-- THE TIED CARD OF 'stopgatelaw27.TraceBack'. -/
def traceBackCard : Claim7 := { stood := { row := traceBackRow, standIns := [], harness := (true, "eb380fabdb0c5ceff3b9a130d53ae9bacf4d0a2cf388d6300ced34cf6e2d85b8"), looks := true }, kinds := [], alts := [], laidByText := true, laidKinds := [.data, .data, .data], laidTests := true, laidLooks := .later }
def TraceBackCardSaid : Prop := Claim7.holds Tryd.pinned (.plain (OpenSpec.ofChange traceBackSpec)) traceBackCard

/-- THE TIED CARD OF 'stopgatelaw27.TraceTells'. -/
def traceTellsCard : Claim7 := { stood := { row := traceTellsRow, standIns := [], harness := (true, "eb380fabdb0c5ceff3b9a130d53ae9bacf4d0a2cf388d6300ced34cf6e2d85b8"), looks := true }, kinds := [], alts := [], laidByText := true, laidKinds := [.data, .data, .data], laidTests := true, laidLooks := .later }
def TraceTellsCardSaid : Prop := Claim7.holds Tryd.pinned (.plain (OpenSpec.ofChange traceTellsSpec)) traceTellsCard

/-- THE TIED CARD OF 'stopgatelaw40.ShapeBack'. -/
def shapeBackCard : Claim7 := { stood := { row := shapeBackRow, standIns := [], harness := (true, "eb380fabdb0c5ceff3b9a130d53ae9bacf4d0a2cf388d6300ced34cf6e2d85b8"), looks := true }, kinds := [], alts := [], laidByText := true, laidKinds := [.data, .data, .data, .data, .sentinel, .sentinel, .pinned], laidTests := true, laidLooks := .later }
def ShapeBackCardSaid : Prop := Claim7.holds Tryd.pinned (.plain (OpenSpec.ofChange shapeBackSpec)) shapeBackCard

/-- THE SECOND FORM's CARD OF 'stopgatelaw04.FaultNumbers'. -/
def faultNumbersUptoCard : Claim7 := { stood := { row := faultNumbersUptoRow, standIns := [], harness := (true, "eb380fabdb0c5ceff3b9a130d53ae9bacf4d0a2cf388d6300ced34cf6e2d85b8"), looks := true }, kinds := [], alts := [], laidByText := true, laidKinds := [.data, .data, .data, .handle], laidTests := true, laidLooks := .later }
def FaultNumbersUptoCardSaid : Prop := Claim7.holds Tryd.pinned (.plain (OpenSpec.upto faultNumbersSpec)) faultNumbersUptoCard

/-- THE SECOND FORM's CARD OF 'stopgatelaw04.FaultNone'. -/
def faultNoneUptoCard : Claim7 := { stood := { row := faultNoneUptoRow, standIns := [], harness := (true, "eb380fabdb0c5ceff3b9a130d53ae9bacf4d0a2cf388d6300ced34cf6e2d85b8"), looks := true }, kinds := [], alts := [], laidByText := true, laidKinds := [.data, .data, .data, .handle], laidTests := true, laidLooks := .later }
def FaultNoneUptoCardSaid : Prop := Claim7.holds Tryd.pinned (.plain (OpenSpec.upto faultNoneSpec)) faultNoneUptoCard

/-- THE SECOND FORM's CARD OF 'stopgatelaw23.CspAnswers'. -/
def cspAnswersUptoCard : Claim7 := { stood := { row := cspAnswersUptoRow, standIns := [], harness := (true, "eb380fabdb0c5ceff3b9a130d53ae9bacf4d0a2cf388d6300ced34cf6e2d85b8"), looks := true }, kinds := [], alts := [], laidByText := true, laidKinds := [.data, .data, .data, .handle], laidTests := true, laidLooks := .later }
def CspAnswersUptoCardSaid : Prop := Claim7.holds Tryd.pinned (.plain (OpenSpec.upto cspAnswersSpec)) cspAnswersUptoCard

/-- THE SECOND FORM's CARD OF 'stopgatelaw25.ViewWords'. -/
def viewWordsUptoCard : Claim7 := { stood := { row := viewWordsUptoRow, standIns := [], harness := (true, "eb380fabdb0c5ceff3b9a130d53ae9bacf4d0a2cf388d6300ced34cf6e2d85b8"), looks := true }, kinds := [], alts := [], laidByText := true, laidKinds := [.data, .data, .data], laidTests := true, laidLooks := .later }
def ViewWordsUptoCardSaid : Prop := Claim7.holds Tryd.pinned (.plain (OpenSpec.upto viewWordsSpec)) viewWordsUptoCard

/-- THE SECOND FORM's CARD OF 'stopgatelaw27.TraceRedo'. -/
def traceRedoUptoCard : Claim7 := { stood := { row := traceRedoUptoRow, standIns := [], harness := (true, "eb380fabdb0c5ceff3b9a130d53ae9bacf4d0a2cf388d6300ced34cf6e2d85b8"), looks := true }, kinds := [], alts := [], laidByText := true, laidKinds := [.data, .data, .data], laidTests := true, laidLooks := .later }
def TraceRedoUptoCardSaid : Prop := Claim7.holds Tryd.pinned (.plain (OpenSpec.upto traceRedoSpec)) traceRedoUptoCard

/-- THE SECOND FORM's CARD OF 'stopgatelaw27.TraceBack'. -/
def traceBackUptoCard : Claim7 := { stood := { row := traceBackUptoRow, standIns := [], harness := (true, "eb380fabdb0c5ceff3b9a130d53ae9bacf4d0a2cf388d6300ced34cf6e2d85b8"), looks := true }, kinds := [], alts := [], laidByText := true, laidKinds := [.data, .data, .data], laidTests := true, laidLooks := .later }
def TraceBackUptoCardSaid : Prop := Claim7.holds Tryd.pinned (.plain (OpenSpec.upto traceBackSpec)) traceBackUptoCard

/-- THE SECOND FORM's CARD OF 'stopgatelaw27.TraceTells'. -/
def traceTellsUptoCard : Claim7 := { stood := { row := traceTellsUptoRow, standIns := [], harness := (true, "eb380fabdb0c5ceff3b9a130d53ae9bacf4d0a2cf388d6300ced34cf6e2d85b8"), looks := true }, kinds := [], alts := [], laidByText := true, laidKinds := [.data, .data, .data], laidTests := true, laidLooks := .later }
def TraceTellsUptoCardSaid : Prop := Claim7.holds Tryd.pinned (.plain (OpenSpec.upto traceTellsSpec)) traceTellsUptoCard

/-- THE SECOND FORM's CARD OF 'stopgatelaw40.ShapeBack'. -/
def shapeBackUptoCard : Claim7 := { stood := { row := shapeBackUptoRow, standIns := [], harness := (true, "eb380fabdb0c5ceff3b9a130d53ae9bacf4d0a2cf388d6300ced34cf6e2d85b8"), looks := true }, kinds := [], alts := [], laidByText := true, laidKinds := [.data, .data, .data, .data, .sentinel, .sentinel, .pinned], laidTests := true, laidLooks := .later }
def ShapeBackUptoCardSaid : Prop := Claim7.holds Tryd.pinned (.plain (OpenSpec.upto shapeBackSpec)) shapeBackUptoCard
end Rows
end Go.Proofs.YtiioedgdhkndgaaDoor
