/-
  DERIVED. GIVEN WITH THE SEED: THE CARDS: each row of YtieglgahfeecbaaGreatDoorRows.lean that lists a variable, with what it lists TIED to the program's text (the seventh form; the later family's looks); each row that meets fmt, with fmt's text TOLD by the authors' own Lean function (tested against real Go, not proved from fmt's source: count such statements apart). THE CARD IS WHAT COUNTS. Prove the row's statement (the work); the ties are given (YtieglgahfeecbaaGreatDoorTie.lean); close each card by the builder's one call (the guide's Derived/Test/ToyasCard.lean, 'card_holds'). Laid BY PROGRAM, IN A SANDBOX (cutbox-door.mjs). By AI agents, Wed Nov 11 2026. No macro, syntax, notation, axiom, sorry.
-/
import Derived.Test.YtieglgahfeecbaaGreatDoorRows
import GoSem.ClaimSeven
namespace Go.Proofs.YtieglgahfeecbaaGreatDoor
namespace Rows

/-- THE TIED CARD OF 'stopgatelaw22.HistLegal'. -/
def histLegalCard : Claim7 := { stood := { row := histLegalRow, standIns := [], harness := (true, "83c3aa288f0eb7e0758d05a90dc4006c3ea4105a12ecc90eb3ab91a41635ec7b"), looks := false }, kinds := [], alts := [], laidByText := true, laidKinds := [.data, .data, .data], laidTests := true, laidLooks := .later }
def HistLegalCardSaid : Prop := Claim7.holds Tryz.pinned (.plain (OpenSpec.ofChange histLegalSpec)) histLegalCard

/-- THE TIED CARD OF 'stopgatelaw22.HistPrefix'. -/
def histPrefixCard : Claim7 := { stood := { row := histPrefixRow, standIns := [], harness := (true, "83c3aa288f0eb7e0758d05a90dc4006c3ea4105a12ecc90eb3ab91a41635ec7b"), looks := false }, kinds := [], alts := [], laidByText := true, laidKinds := [.data, .data, .data], laidTests := true, laidLooks := .later }
def HistPrefixCardSaid : Prop := Claim7.holds Tryz.pinned (.plain (OpenSpec.ofChange histPrefixSpec)) histPrefixCard

/-- THE TIED CARD OF 'stopgatelaw43.AspectsLegal'. -/
def aspectsLegalCard : Claim7 := { stood := { row := aspectsLegalRow, standIns := [], harness := (true, "83c3aa288f0eb7e0758d05a90dc4006c3ea4105a12ecc90eb3ab91a41635ec7b"), looks := false }, kinds := [], alts := [], laidByText := true, laidKinds := [.data, .data, .data], laidTests := true, laidLooks := .later }
def AspectsLegalCardSaid : Prop := Claim7.holds Tryz.pinned (.plain (OpenSpec.ofChange aspectsLegalSpec)) aspectsLegalCard

/-- THE SECOND FORM's CARD OF 'stopgatelaw22.HistLegal'. -/
def histLegalUptoCard : Claim7 := { stood := { row := histLegalUptoRow, standIns := [], harness := (true, "83c3aa288f0eb7e0758d05a90dc4006c3ea4105a12ecc90eb3ab91a41635ec7b"), looks := false }, kinds := [], alts := [], laidByText := true, laidKinds := [.data, .data, .data], laidTests := true, laidLooks := .later }
def HistLegalUptoCardSaid : Prop := Claim7.holds Tryz.pinned (.plain (OpenSpec.upto histLegalSpec)) histLegalUptoCard

/-- THE SECOND FORM's CARD OF 'stopgatelaw22.HistPrefix'. -/
def histPrefixUptoCard : Claim7 := { stood := { row := histPrefixUptoRow, standIns := [], harness := (true, "83c3aa288f0eb7e0758d05a90dc4006c3ea4105a12ecc90eb3ab91a41635ec7b"), looks := false }, kinds := [], alts := [], laidByText := true, laidKinds := [.data, .data, .data], laidTests := true, laidLooks := .later }
def HistPrefixUptoCardSaid : Prop := Claim7.holds Tryz.pinned (.plain (OpenSpec.upto histPrefixSpec)) histPrefixUptoCard

/-- THE SECOND FORM's CARD OF 'stopgatelaw43.AspectsLegal'. -/
def aspectsLegalUptoCard : Claim7 := { stood := { row := aspectsLegalUptoRow, standIns := [], harness := (true, "83c3aa288f0eb7e0758d05a90dc4006c3ea4105a12ecc90eb3ab91a41635ec7b"), looks := false }, kinds := [], alts := [], laidByText := true, laidKinds := [.data, .data, .data], laidTests := true, laidLooks := .later }
def AspectsLegalUptoCardSaid : Prop := Claim7.holds Tryz.pinned (.plain (OpenSpec.upto aspectsLegalSpec)) aspectsLegalUptoCard
end Rows
end Go.Proofs.YtieglgahfeecbaaGreatDoor
