/-
  No cell of these rows narrows 'for every input' (looked for: loops, veiled, ifaces, maps, wideKeys, modest, calm, conditions, laid).
  DERIVED. THE GIVEN ROWS OF THIS SEAT. 3 by the template 'for every input the law returns true; each argument reads behind the call as it read before'; 0 by the template 'total and deterministic' (their statements: Qxb6500772aTotals.lean).
  GIVEN WITH THE SEED: the statements are not yours to turn. If you find one false, say at which input.
  Laid BY PROGRAM, IN A SANDBOX (cutbox-rows.mjs): the forced cells as the released guide's own fill.sh prints them over the translation d5ec0c25eb6b694e… (all of the seat's roots in one cut). By AI agents, Wed Nov 11 2026. No macro, syntax, notation, axiom, sorry.
-/
import Derived.Test.Qxb6500772aChecked
import GoSem.Claim
import GoSem.ClaimJoined
import GoSem.ClaimMapViews
import Derived.JoinedTies
import Derived.KernelRfl
namespace Go.Proofs.Qxb6500772a
/- THE CELL 'sum', in the pinned program and in every row, IS THE sha256 OF THE DUMP (.gsa) THAT Qxb6500772aProg.lean LOADS. Nothing in Lean hashes anything: it is a label: what it is worth is what the hold of that sum in a sandbox is worth. -/
noncomputable def Try.pinned : Pinned := { name := "qxb6500772a", sum := "d5ec0c25eb6b694e7a3bf2b0a7ddbe263ab3f5ca67454f6cd3f9ff31f61f24d9", checked := Try.checked }
namespace Rows
def none {H : Type} : Left H := { results := [], args := [] }

/-- 'blastlaw.SymbolicStateIsInterpreterState': WHATEVER THE INPUT: true; the input reads as it did. -/
def symbolicStateIsInterpreterStateSpec : ChangeSpec := { name := "symbolicStateIsInterpreterState", fn := fun _ => fun
  | [d] => { results := [.lit (.bool true)], args := [d] }
  | _ => none }
def symbolicStateIsInterpreterStateRow : OpenClaim := { program := "qxb6500772a", sum := "d5ec0c25eb6b694e7a3bf2b0a7ddbe263ab3f5ca67454f6cd3f9ff31f61f24d9", func := "e2e/blastlaw.SymbolicStateIsInterpreterState", spec := "symbolicStateIsInterpreterState", recurses := true, apart := false }
def SymbolicStateIsInterpreterStateSaid : Prop := symbolicStateIsInterpreterStateRow.holds Try.pinned (OpenSpec.ofChange symbolicStateIsInterpreterStateSpec)

/-- ITS FALSE NEIGHBOUR: 'it returns false'. Refute it at one input. -/
def symbolicStateIsInterpreterStateWrong : ChangeSpec := { name := "symbolicStateIsInterpreterState", fn := fun _ => fun
  | [d] => { results := [.lit (.bool false)], args := [d] }
  | _ => none }
def SymbolicStateIsInterpreterStateWrongFalsely : Prop := symbolicStateIsInterpreterStateRow.holds Try.pinned (OpenSpec.ofChange symbolicStateIsInterpreterStateWrong)

/-- 'blastlaw.RealDoesWhatModelDoes': WHATEVER THE INPUT: true; the input reads as it did. -/
def realDoesWhatModelDoesSpec : ChangeSpec := { name := "realDoesWhatModelDoes", fn := fun _ => fun
  | [d] => { results := [.lit (.bool true)], args := [d] }
  | _ => none }
def realDoesWhatModelDoesRow : OpenClaim := { program := "qxb6500772a", sum := "d5ec0c25eb6b694e7a3bf2b0a7ddbe263ab3f5ca67454f6cd3f9ff31f61f24d9", func := "e2e/blastlaw.RealDoesWhatModelDoes", spec := "realDoesWhatModelDoes", recurses := true, apart := false }
def RealDoesWhatModelDoesSaid : Prop := realDoesWhatModelDoesRow.holds Try.pinned (OpenSpec.ofChange realDoesWhatModelDoesSpec)

/-- ITS FALSE NEIGHBOUR: 'it returns false'. Refute it at one input. -/
def realDoesWhatModelDoesWrong : ChangeSpec := { name := "realDoesWhatModelDoes", fn := fun _ => fun
  | [d] => { results := [.lit (.bool false)], args := [d] }
  | _ => none }
def RealDoesWhatModelDoesWrongFalsely : Prop := realDoesWhatModelDoesRow.holds Try.pinned (OpenSpec.ofChange realDoesWhatModelDoesWrong)

/-- 'blastlaw.PinsCarryTheStates': WHATEVER THE INPUT: true; the input reads as it did. -/
def pinsCarryTheStatesSpec : ChangeSpec := { name := "pinsCarryTheStates", fn := fun _ => fun
  | [d] => { results := [.lit (.bool true)], args := [d] }
  | _ => none }
def pinsCarryTheStatesRow : OpenClaim := { program := "qxb6500772a", sum := "d5ec0c25eb6b694e7a3bf2b0a7ddbe263ab3f5ca67454f6cd3f9ff31f61f24d9", func := "e2e/blastlaw.PinsCarryTheStates", spec := "pinsCarryTheStates", recurses := true, apart := false }
def PinsCarryTheStatesSaid : Prop := pinsCarryTheStatesRow.holds Try.pinned (OpenSpec.ofChange pinsCarryTheStatesSpec)

/-- ITS FALSE NEIGHBOUR: 'it returns false'. Refute it at one input. -/
def pinsCarryTheStatesWrong : ChangeSpec := { name := "pinsCarryTheStates", fn := fun _ => fun
  | [d] => { results := [.lit (.bool false)], args := [d] }
  | _ => none }
def PinsCarryTheStatesWrongFalsely : Prop := pinsCarryTheStatesRow.holds Try.pinned (OpenSpec.ofChange pinsCarryTheStatesWrong)

end Rows
end Go.Proofs.Qxb6500772a
