/-
  DERIVED. GIVEN WITH THE SEED: THE CARDS: each row of YtmllbailfbjoeaaDoorRows.lean that lists a variable, with what it lists TIED to the program's text (the seventh form; the later family's looks); each row that meets fmt, with fmt's text TOLD by the authors' own Lean function (tested against real Go, not proved from fmt's source: count such statements apart). THE CARD IS WHAT COUNTS. Prove the row's statement (the work); the ties are given (YtmllbailfbjoeaaDoorTie.lean); close each card by the builder's one call (the guide's Derived/Test/ToyasCard.lean, 'card_holds'). Laid BY PROGRAM, IN A SANDBOX (cutbox-door.mjs). By AI agents, Wed Nov 11 2026. No macro, syntax, notation, axiom, sorry.
-/
import Derived.Test.YtmllbailfbjoeaaDoorRows
import GoSem.ClaimSeven
namespace Go.Proofs.YtmllbailfbjoeaaDoor
namespace Rows

/-- THE TIED CARD OF 'stopgatelaw23.CspErrors'. -/
def cspErrorsCard : Claim7 := { stood := { row := cspErrorsRow, standIns := [], harness := (true, "540198200eaadc57485d5c05d950f90cfe18017da338909e299adf148eb5ffd6"), looks := true }, kinds := [], alts := [], laidByText := true, laidKinds := [.data, .data, .data], laidTests := true, laidLooks := .later }
def CspErrorsCardSaid : Prop := Claim7.holds Tryd.pinned (.plain (OpenSpec.ofChange cspErrorsSpec)) cspErrorsCard

/-- THE TIED CARD OF 'stopgatelaw23.CspCalls'. -/
def cspCallsCard : Claim7 := { stood := { row := cspCallsRow, standIns := [], harness := (true, "540198200eaadc57485d5c05d950f90cfe18017da338909e299adf148eb5ffd6"), looks := true }, kinds := [], alts := [], laidByText := true, laidKinds := [.data, .data, .data], laidTests := true, laidLooks := .later }
def CspCallsCardSaid : Prop := Claim7.holds Tryd.pinned (.plain (OpenSpec.ofChange cspCallsSpec)) cspCallsCard

/-- THE TIED CARD OF 'stopgatelaw23.CspNames'. -/
def cspNamesCard : Claim7 := { stood := { row := cspNamesRow, standIns := [], harness := (true, "540198200eaadc57485d5c05d950f90cfe18017da338909e299adf148eb5ffd6"), looks := true }, kinds := [], alts := [], laidByText := true, laidKinds := [.data, .data, .data], laidTests := true, laidLooks := .later }
def CspNamesCardSaid : Prop := Claim7.holds Tryd.pinned (.plain (OpenSpec.ofChange cspNamesSpec)) cspNamesCard

/-- THE TIED CARD OF 'stopgatelaw25.ViewWords'. -/
def viewWordsCard : Claim7 := { stood := { row := viewWordsRow, standIns := [], harness := (true, "540198200eaadc57485d5c05d950f90cfe18017da338909e299adf148eb5ffd6"), looks := true }, kinds := [], alts := [], laidByText := true, laidKinds := [.data, .data, .data], laidTests := true, laidLooks := .later }
def ViewWordsCardSaid : Prop := Claim7.holds Tryd.pinned (.plain (OpenSpec.ofChange viewWordsSpec)) viewWordsCard

/-- THE TIED CARD OF 'stopgatelaw04.FaultTexts'. -/
def faultTextsCard : Claim7 := { stood := { row := faultTextsRow, standIns := [], harness := (true, "540198200eaadc57485d5c05d950f90cfe18017da338909e299adf148eb5ffd6"), looks := true }, kinds := [], alts := [], laidByText := true, laidKinds := [.data, .data, .data, .handle], laidTests := true, laidLooks := .later }
def FaultTextsCardSaid : Prop := Claim7.holds Tryd.pinned (.plain (OpenSpec.ofChange faultTextsSpec)) faultTextsCard

/-- THE SECOND FORM's CARD OF 'stopgatelaw23.CspErrors'. -/
def cspErrorsUptoCard : Claim7 := { stood := { row := cspErrorsUptoRow, standIns := [], harness := (true, "540198200eaadc57485d5c05d950f90cfe18017da338909e299adf148eb5ffd6"), looks := true }, kinds := [], alts := [], laidByText := true, laidKinds := [.data, .data, .data], laidTests := true, laidLooks := .later }
def CspErrorsUptoCardSaid : Prop := Claim7.holds Tryd.pinned (.plain (OpenSpec.upto cspErrorsSpec)) cspErrorsUptoCard

/-- THE SECOND FORM's CARD OF 'stopgatelaw23.CspCalls'. -/
def cspCallsUptoCard : Claim7 := { stood := { row := cspCallsUptoRow, standIns := [], harness := (true, "540198200eaadc57485d5c05d950f90cfe18017da338909e299adf148eb5ffd6"), looks := true }, kinds := [], alts := [], laidByText := true, laidKinds := [.data, .data, .data], laidTests := true, laidLooks := .later }
def CspCallsUptoCardSaid : Prop := Claim7.holds Tryd.pinned (.plain (OpenSpec.upto cspCallsSpec)) cspCallsUptoCard

/-- THE SECOND FORM's CARD OF 'stopgatelaw23.CspNames'. -/
def cspNamesUptoCard : Claim7 := { stood := { row := cspNamesUptoRow, standIns := [], harness := (true, "540198200eaadc57485d5c05d950f90cfe18017da338909e299adf148eb5ffd6"), looks := true }, kinds := [], alts := [], laidByText := true, laidKinds := [.data, .data, .data], laidTests := true, laidLooks := .later }
def CspNamesUptoCardSaid : Prop := Claim7.holds Tryd.pinned (.plain (OpenSpec.upto cspNamesSpec)) cspNamesUptoCard

/-- THE SECOND FORM's CARD OF 'stopgatelaw25.ViewWords'. -/
def viewWordsUptoCard : Claim7 := { stood := { row := viewWordsUptoRow, standIns := [], harness := (true, "540198200eaadc57485d5c05d950f90cfe18017da338909e299adf148eb5ffd6"), looks := true }, kinds := [], alts := [], laidByText := true, laidKinds := [.data, .data, .data], laidTests := true, laidLooks := .later }
def ViewWordsUptoCardSaid : Prop := Claim7.holds Tryd.pinned (.plain (OpenSpec.upto viewWordsSpec)) viewWordsUptoCard

/-- THE SECOND FORM's CARD OF 'stopgatelaw04.FaultTexts'. -/
def faultTextsUptoCard : Claim7 := { stood := { row := faultTextsUptoRow, standIns := [], harness := (true, "540198200eaadc57485d5c05d950f90cfe18017da338909e299adf148eb5ffd6"), looks := true }, kinds := [], alts := [], laidByText := true, laidKinds := [.data, .data, .data, .handle], laidTests := true, laidLooks := .later }
def FaultTextsUptoCardSaid : Prop := Claim7.holds Tryd.pinned (.plain (OpenSpec.upto faultTextsSpec)) faultTextsUptoCard
end Rows
end Go.Proofs.YtmllbailfbjoeaaDoor
