/-
  No cell of these rows narrows 'for every input' (looked for: loops, veiled, ifaces, maps, wideKeys, modest, calm, conditions, laid).
  DERIVED. THE GIVEN ROWS OF THIS SEAT. 4 by the template 'for every input the law returns true; each argument reads behind the call as it read before'; 0 by the template 'total and deterministic' (their statements: YtedipingocmmdaaGreatTotals.lean).
  GIVEN WITH THE SEED: the statements are not yours to turn. If you find one false, say at which input.
  Laid BY PROGRAM, IN A SANDBOX (cutbox-rows.mjs): the forced cells as the released guide's own fill.sh prints them over the translation 8df9ba1447be4b3f… (all of the seat's roots in one cut). By AI agents, Wed Nov 11 2026. No macro, syntax, notation, axiom, sorry.
-/
import Derived.Test.YtedipingocmmdaaGreatChecked
import GoSem.Claim
import GoSem.ClaimJoined
import GoSem.ClaimMapViews
import Derived.JoinedTies
import Derived.KernelRfl
namespace Go.Proofs.YtedipingocmmdaaGreat
/- THE CELL 'sum', in the pinned program and in every row, IS THE sha256 OF THE DUMP (.gsa) THAT YtedipingocmmdaaGreatProg.lean LOADS. Nothing in Lean hashes anything: it is a label: what it is worth is what the hold of that sum in a sandbox is worth. -/
noncomputable def Tryz.pinned : Pinned := { name := "ytedipingocmmdaagreat", sum := "8df9ba1447be4b3f1f51f88f65a0bcde592eaf55dd2b2d0c513125e8269a909d", checked := Tryz.checked }
namespace Rows
def none {H : Type} : Left H := { results := [], args := [] }

/-- 'stopgatelaw18.MachineNobody': WHATEVER THE INPUT: true; the input reads as it did. -/
def machineNobodySpec : ChangeSpec := { name := "machineNobody", fn := fun _ => fun
  | [d1, d2] => { results := [.lit (.bool true)], args := [d1, d2] }
  | _ => none }
def machineNobodyRow : OpenClaim := { program := "ytedipingocmmdaagreat", sum := "8df9ba1447be4b3f1f51f88f65a0bcde592eaf55dd2b2d0c513125e8269a909d", func := "stopgate/stopgatelaw18.MachineNobody", spec := "machineNobody", unfollowed := true, recurses := true, apart := false }
def MachineNobodySaid : Prop := machineNobodyRow.holds Tryz.pinned (OpenSpec.ofChange machineNobodySpec)

/-- ITS FALSE NEIGHBOUR: 'it returns false'. Refute it at one input. -/
def machineNobodyWrong : ChangeSpec := { name := "machineNobody", fn := fun _ => fun
  | [d1, d2] => { results := [.lit (.bool false)], args := [d1, d2] }
  | _ => none }
def MachineNobodyWrongFalsely : Prop := machineNobodyRow.holds Tryz.pinned (OpenSpec.ofChange machineNobodyWrong)

/-- 'stopgatelaw34.SpillNobody': WHATEVER THE INPUT: true; the input reads as it did. -/
def spillNobodySpec : ChangeSpec := { name := "spillNobody", fn := fun _ => fun
  | [d1, d2, d3] => { results := [.lit (.bool true)], args := [d1, d2, d3] }
  | _ => none }
def spillNobodyRow : OpenClaim := { program := "ytedipingocmmdaagreat", sum := "8df9ba1447be4b3f1f51f88f65a0bcde592eaf55dd2b2d0c513125e8269a909d", func := "stopgate/stopgatelaw34.SpillNobody", spec := "spillNobody", unfollowed := true, recurses := true, apart := false }
def SpillNobodySaid : Prop := spillNobodyRow.holds Tryz.pinned (OpenSpec.ofChange spillNobodySpec)

/-- ITS FALSE NEIGHBOUR: 'it returns false'. Refute it at one input. -/
def spillNobodyWrong : ChangeSpec := { name := "spillNobody", fn := fun _ => fun
  | [d1, d2, d3] => { results := [.lit (.bool false)], args := [d1, d2, d3] }
  | _ => none }
def SpillNobodyWrongFalsely : Prop := spillNobodyRow.holds Tryz.pinned (OpenSpec.ofChange spillNobodyWrong)

/-- 'stopgatelaw19.LedgerNobody': WHATEVER THE INPUT: true; the input reads as it did. -/
def ledgerNobodySpec : ChangeSpec := { name := "ledgerNobody", fn := fun _ => fun
  | [d] => { results := [.lit (.bool true)], args := [d] }
  | _ => none }
def ledgerNobodyRow : OpenClaim := { program := "ytedipingocmmdaagreat", sum := "8df9ba1447be4b3f1f51f88f65a0bcde592eaf55dd2b2d0c513125e8269a909d", func := "stopgate/stopgatelaw19.LedgerNobody", spec := "ledgerNobody", unfollowed := true, recurses := true, apart := false }
def LedgerNobodySaid : Prop := ledgerNobodyRow.holds Tryz.pinned (OpenSpec.ofChange ledgerNobodySpec)

/-- ITS FALSE NEIGHBOUR: 'it returns false'. Refute it at one input. -/
def ledgerNobodyWrong : ChangeSpec := { name := "ledgerNobody", fn := fun _ => fun
  | [d] => { results := [.lit (.bool false)], args := [d] }
  | _ => none }
def LedgerNobodyWrongFalsely : Prop := ledgerNobodyRow.holds Tryz.pinned (OpenSpec.ofChange ledgerNobodyWrong)

/-- 'stopgatelaw36.ActorNobody': WHATEVER THE INPUT: true; the input reads as it did. -/
def actorNobodySpec : ChangeSpec := { name := "actorNobody", fn := fun _ => fun
  | [d1, d2] => { results := [.lit (.bool true)], args := [d1, d2] }
  | _ => none }
def actorNobodyRow : OpenClaim := { program := "ytedipingocmmdaagreat", sum := "8df9ba1447be4b3f1f51f88f65a0bcde592eaf55dd2b2d0c513125e8269a909d", func := "stopgate/stopgatelaw36.ActorNobody", spec := "actorNobody", inPlace := ["slices.overlaps[int]"], unfollowed := true, recurses := true, apart := false }
def ActorNobodySaid : Prop := actorNobodyRow.holds Tryz.pinned (OpenSpec.ofChange actorNobodySpec)

/-- ITS FALSE NEIGHBOUR: 'it returns false'. Refute it at one input. -/
def actorNobodyWrong : ChangeSpec := { name := "actorNobody", fn := fun _ => fun
  | [d1, d2] => { results := [.lit (.bool false)], args := [d1, d2] }
  | _ => none }
def ActorNobodyWrongFalsely : Prop := actorNobodyRow.holds Tryz.pinned (OpenSpec.ofChange actorNobodyWrong)

/- THE SECOND FORM. 'bulk': how many values and letters a reading holds, each counted each time it is reached (what is shared counts as often as it is met; a slice's spare places count too). A statement '..UptoSaid' is the law's where the arguments, and the package variables that the reading takes, are together of bulk at most 1048576: NARROWER than '..Said'. Prove '..Said' where nothing that the law and all that it calls make is longer than what came in: it says more and counts as full. Else prove '..UptoSaid'. A law counts once. -/
mutual
def uptoBulk {H : Type} : DataW H → Nat
  | .lit (.string bytes) => bytes.length + 1
  | .lit _ => 1
  | .nil => 1
  | .ptr d => uptoBulk d + 1
  | .slice elems spare => uptoBulkAll elems + uptoBulkAll spare + 1
  | .agg parts => uptoBulkAll parts + 1
  | .iface _ d => uptoBulk d + 1
  | .map entries => uptoBulkEntries entries + 1
  | .held _ => 1
def uptoBulkAll {H : Type} : List (DataW H) → Nat
  | [] => 0
  | d :: r => uptoBulk d + uptoBulkAll r
def uptoBulkEntries {H : Type} : List (Lit × DataW H) → Nat
  | [] => 0
  | x :: r => uptoBulkEntry x + uptoBulkEntries r
def uptoBulkEntry {H : Type} : Lit × DataW H → Nat
  | (.string bytes, d) => bytes.length + uptoBulk d + 1
  | (_, d) => uptoBulk d + 1
 end
def uptoSmall : (H : Type) → List (DataW H) → Bool := fun _ ds => decide (uptoBulkAll ds ≤ 1048576)
def OpenSpec.upto (s : _root_.Go.ChangeSpec) : _root_.Go.OpenSpec := { _root_.Go.OpenSpec.ofChange s with cond := some uptoSmall }

/-- 'stopgatelaw18.MachineNobody', WHERE WHAT IT READS IS OF BULK AT MOST 1048576: true; the input reads as it did. -/
def machineNobodyUptoRow : OpenClaim := { program := "ytedipingocmmdaagreat", sum := "8df9ba1447be4b3f1f51f88f65a0bcde592eaf55dd2b2d0c513125e8269a909d", func := "stopgate/stopgatelaw18.MachineNobody", spec := "machineNobody", unfollowed := true, recurses := true, apart := false, narrowed := true }
def MachineNobodyUptoSaid : Prop := machineNobodyUptoRow.holds Tryz.pinned (OpenSpec.upto machineNobodySpec)

/-- 'stopgatelaw34.SpillNobody', WHERE WHAT IT READS IS OF BULK AT MOST 1048576: true; the input reads as it did. -/
def spillNobodyUptoRow : OpenClaim := { program := "ytedipingocmmdaagreat", sum := "8df9ba1447be4b3f1f51f88f65a0bcde592eaf55dd2b2d0c513125e8269a909d", func := "stopgate/stopgatelaw34.SpillNobody", spec := "spillNobody", unfollowed := true, recurses := true, apart := false, narrowed := true }
def SpillNobodyUptoSaid : Prop := spillNobodyUptoRow.holds Tryz.pinned (OpenSpec.upto spillNobodySpec)

/-- 'stopgatelaw19.LedgerNobody', WHERE WHAT IT READS IS OF BULK AT MOST 1048576: true; the input reads as it did. -/
def ledgerNobodyUptoRow : OpenClaim := { program := "ytedipingocmmdaagreat", sum := "8df9ba1447be4b3f1f51f88f65a0bcde592eaf55dd2b2d0c513125e8269a909d", func := "stopgate/stopgatelaw19.LedgerNobody", spec := "ledgerNobody", unfollowed := true, recurses := true, apart := false, narrowed := true }
def LedgerNobodyUptoSaid : Prop := ledgerNobodyUptoRow.holds Tryz.pinned (OpenSpec.upto ledgerNobodySpec)

/-- 'stopgatelaw36.ActorNobody', WHERE WHAT IT READS IS OF BULK AT MOST 1048576: true; the input reads as it did. -/
def actorNobodyUptoRow : OpenClaim := { program := "ytedipingocmmdaagreat", sum := "8df9ba1447be4b3f1f51f88f65a0bcde592eaf55dd2b2d0c513125e8269a909d", func := "stopgate/stopgatelaw36.ActorNobody", spec := "actorNobody", inPlace := ["slices.overlaps[int]"], unfollowed := true, recurses := true, apart := false, narrowed := true }
def ActorNobodyUptoSaid : Prop := actorNobodyUptoRow.holds Tryz.pinned (OpenSpec.upto actorNobodySpec)

end Rows
end Go.Proofs.YtedipingocmmdaaGreat
