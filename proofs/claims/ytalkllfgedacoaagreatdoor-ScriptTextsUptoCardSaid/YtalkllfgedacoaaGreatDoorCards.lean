/-
  DERIVED. GIVEN WITH THE SEED: THE CARDS: each row of YtalkllfgedacoaaGreatDoorRows.lean that lists a variable, with what it lists TIED to the program's text (the seventh form; the later family's looks); each row that meets fmt, with fmt's text TOLD by the authors' own Lean function (tested against real Go, not proved from fmt's source: count such statements apart). THE CARD IS WHAT COUNTS. Prove the row's statement (the work); the ties are given (YtalkllfgedacoaaGreatDoorTie.lean); close each card by the builder's one call (the guide's Derived/Test/ToyasCard.lean, 'card_holds'). Laid BY PROGRAM, IN A SANDBOX (cutbox-door.mjs). By AI agents, Wed Nov 11 2026. No macro, syntax, notation, axiom, sorry.
-/
import Derived.Test.YtalkllfgedacoaaGreatDoorRows
import GoSem.ClaimSeven
namespace Go.Proofs.YtalkllfgedacoaaGreatDoor
namespace Rows

/-- THE TIED CARD OF 'stopgatelaw25.ViewLines'. -/
def viewLinesCard : Claim7 := { stood := { row := viewLinesRow, standIns := [], harness := (true, "4fd765a7666662f1c5c91705ba9a5182bac1483169a0e5715a20c717fbc8adc5"), looks := true }, kinds := [], alts := [], laidByText := true, laidKinds := [.data, .data, .data, .data, .sentinel, .sentinel, .pinned], laidTests := true, laidLooks := .later }
def ViewLinesCardSaid : Prop := Claim7.holds Tryz.pinned (.plain (OpenSpec.ofChange viewLinesSpec)) viewLinesCard

/-- THE TIED CARD OF 'stopgatelaw25.ViewObjects'. -/
def viewObjectsCard : Claim7 := { stood := { row := viewObjectsRow, standIns := [], harness := (true, "4fd765a7666662f1c5c91705ba9a5182bac1483169a0e5715a20c717fbc8adc5"), looks := true }, kinds := [], alts := [], laidByText := true, laidKinds := [.data, .data, .data, .data, .sentinel, .sentinel, .pinned], laidTests := true, laidLooks := .later }
def ViewObjectsCardSaid : Prop := Claim7.holds Tryz.pinned (.plain (OpenSpec.ofChange viewObjectsSpec)) viewObjectsCard

/-- THE TIED CARD OF 'stopgatelaw24.ScriptReads'. -/
def scriptReadsCard : Claim7 := { stood := { row := scriptReadsRow, standIns := [], harness := (true, "4fd765a7666662f1c5c91705ba9a5182bac1483169a0e5715a20c717fbc8adc5"), looks := true }, kinds := [], alts := [], laidByText := true, laidKinds := [.data, .data, .data, .data, .handle, .sentinel, .sentinel, .pinned], laidTests := true, laidLooks := .later }
def ScriptReadsCardSaid : Prop := Claim7.holds Tryz.pinned (.plain (OpenSpec.ofChange scriptReadsSpec)) scriptReadsCard

/-- THE TIED CARD OF 'stopgatelaw24.ScriptTexts'. -/
def scriptTextsCard : Claim7 := { stood := { row := scriptTextsRow, standIns := [], harness := (true, "4fd765a7666662f1c5c91705ba9a5182bac1483169a0e5715a20c717fbc8adc5"), looks := true }, kinds := [], alts := [], laidByText := true, laidKinds := [.data, .data, .data, .data, .handle, .sentinel, .sentinel, .pinned], laidTests := true, laidLooks := .later }
def ScriptTextsCardSaid : Prop := Claim7.holds Tryz.pinned (.plain (OpenSpec.ofChange scriptTextsSpec)) scriptTextsCard

/-- THE TIED CARD OF 'stopgatelaw24.ScriptBack'. -/
def scriptBackCard : Claim7 := { stood := { row := scriptBackRow, standIns := [], harness := (true, "4fd765a7666662f1c5c91705ba9a5182bac1483169a0e5715a20c717fbc8adc5"), looks := true }, kinds := [], alts := [], laidByText := true, laidKinds := [.data, .data, .data, .data, .handle, .sentinel, .sentinel, .pinned], laidTests := true, laidLooks := .later }
def ScriptBackCardSaid : Prop := Claim7.holds Tryz.pinned (.plain (OpenSpec.ofChange scriptBackSpec)) scriptBackCard

/-- THE TIED CARD OF 'stopgatelaw24.ScriptTogether'. -/
def scriptTogetherCard : Claim7 := { stood := { row := scriptTogetherRow, standIns := [], harness := (true, "4fd765a7666662f1c5c91705ba9a5182bac1483169a0e5715a20c717fbc8adc5"), looks := true }, kinds := [], alts := [], laidByText := true, laidKinds := [.data, .data, .data, .data, .handle, .sentinel, .sentinel, .pinned], laidTests := true, laidLooks := .later }
def ScriptTogetherCardSaid : Prop := Claim7.holds Tryz.pinned (.plain (OpenSpec.ofChange scriptTogetherSpec)) scriptTogetherCard

/-- THE SECOND FORM's CARD OF 'stopgatelaw25.ViewLines'. -/
def viewLinesUptoCard : Claim7 := { stood := { row := viewLinesUptoRow, standIns := [], harness := (true, "4fd765a7666662f1c5c91705ba9a5182bac1483169a0e5715a20c717fbc8adc5"), looks := true }, kinds := [], alts := [], laidByText := true, laidKinds := [.data, .data, .data, .data, .sentinel, .sentinel, .pinned], laidTests := true, laidLooks := .later }
def ViewLinesUptoCardSaid : Prop := Claim7.holds Tryz.pinned (.plain (OpenSpec.upto viewLinesSpec)) viewLinesUptoCard

/-- THE SECOND FORM's CARD OF 'stopgatelaw25.ViewObjects'. -/
def viewObjectsUptoCard : Claim7 := { stood := { row := viewObjectsUptoRow, standIns := [], harness := (true, "4fd765a7666662f1c5c91705ba9a5182bac1483169a0e5715a20c717fbc8adc5"), looks := true }, kinds := [], alts := [], laidByText := true, laidKinds := [.data, .data, .data, .data, .sentinel, .sentinel, .pinned], laidTests := true, laidLooks := .later }
def ViewObjectsUptoCardSaid : Prop := Claim7.holds Tryz.pinned (.plain (OpenSpec.upto viewObjectsSpec)) viewObjectsUptoCard

/-- THE SECOND FORM's CARD OF 'stopgatelaw24.ScriptReads'. -/
def scriptReadsUptoCard : Claim7 := { stood := { row := scriptReadsUptoRow, standIns := [], harness := (true, "4fd765a7666662f1c5c91705ba9a5182bac1483169a0e5715a20c717fbc8adc5"), looks := true }, kinds := [], alts := [], laidByText := true, laidKinds := [.data, .data, .data, .data, .handle, .sentinel, .sentinel, .pinned], laidTests := true, laidLooks := .later }
def ScriptReadsUptoCardSaid : Prop := Claim7.holds Tryz.pinned (.plain (OpenSpec.upto scriptReadsSpec)) scriptReadsUptoCard

/-- THE SECOND FORM's CARD OF 'stopgatelaw24.ScriptTexts'. -/
def scriptTextsUptoCard : Claim7 := { stood := { row := scriptTextsUptoRow, standIns := [], harness := (true, "4fd765a7666662f1c5c91705ba9a5182bac1483169a0e5715a20c717fbc8adc5"), looks := true }, kinds := [], alts := [], laidByText := true, laidKinds := [.data, .data, .data, .data, .handle, .sentinel, .sentinel, .pinned], laidTests := true, laidLooks := .later }
def ScriptTextsUptoCardSaid : Prop := Claim7.holds Tryz.pinned (.plain (OpenSpec.upto scriptTextsSpec)) scriptTextsUptoCard

/-- THE SECOND FORM's CARD OF 'stopgatelaw24.ScriptBack'. -/
def scriptBackUptoCard : Claim7 := { stood := { row := scriptBackUptoRow, standIns := [], harness := (true, "4fd765a7666662f1c5c91705ba9a5182bac1483169a0e5715a20c717fbc8adc5"), looks := true }, kinds := [], alts := [], laidByText := true, laidKinds := [.data, .data, .data, .data, .handle, .sentinel, .sentinel, .pinned], laidTests := true, laidLooks := .later }
def ScriptBackUptoCardSaid : Prop := Claim7.holds Tryz.pinned (.plain (OpenSpec.upto scriptBackSpec)) scriptBackUptoCard

/-- THE SECOND FORM's CARD OF 'stopgatelaw24.ScriptTogether'. -/
def scriptTogetherUptoCard : Claim7 := { stood := { row := scriptTogetherUptoRow, standIns := [], harness := (true, "4fd765a7666662f1c5c91705ba9a5182bac1483169a0e5715a20c717fbc8adc5"), looks := true }, kinds := [], alts := [], laidByText := true, laidKinds := [.data, .data, .data, .data, .handle, .sentinel, .sentinel, .pinned], laidTests := true, laidLooks := .later }
def ScriptTogetherUptoCardSaid : Prop := Claim7.holds Tryz.pinned (.plain (OpenSpec.upto scriptTogetherSpec)) scriptTogetherUptoCard
end Rows
end Go.Proofs.YtalkllfgedacoaaGreatDoor
