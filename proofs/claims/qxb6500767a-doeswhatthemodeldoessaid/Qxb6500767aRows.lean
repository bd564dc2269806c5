/-
  No cell of these rows narrows 'for every input' (looked for: loops, veiled, ifaces, maps, wideKeys, modest, calm, conditions, laid).
  DERIVED. THE GIVEN ROWS OF THIS SEAT. 7 by the template 'for every input the law returns true; each argument reads behind the call as it read before'; 0 by the template 'total and deterministic' (their statements: Qxb6500767aTotals.lean).
  GIVEN WITH THE SEED: the statements are not yours to turn. If you find one false, say at which input.
  Laid BY PROGRAM, IN A SANDBOX (cutbox-rows.mjs): the forced cells as the released guide's own fill.sh prints them over the translation 8a492489fcfcdbc1… (all of the seat's roots in one cut). By AI agents, Wed Nov 11 2026. No macro, syntax, notation, axiom, sorry.
-/
import Derived.Test.Qxb6500767aChecked
import GoSem.Claim
import GoSem.ClaimJoined
import GoSem.ClaimMapViews
import Derived.JoinedTies
import Derived.KernelRfl
namespace Go.Proofs.Qxb6500767a
/- THE CELL 'sum', in the pinned program and in every row, IS THE sha256 OF THE DUMP (.gsa) THAT Qxb6500767aProg.lean LOADS. Nothing in Lean hashes anything: it is a label: what it is worth is what the hold of that sum in a sandbox is worth. -/
noncomputable def Try.pinned : Pinned := { name := "qxb6500767a", sum := "8a492489fcfcdbc120786b9ced4360c663c3e5a766dee5ffd4d6ca405419133e", checked := Try.checked }
namespace Rows
def none {H : Type} : Left H := { results := [], args := [] }

/-- 'unionvfslaw.DoesWhatTheModelDoes': WHATEVER THE INPUT: true; the input reads as it did. -/
def doesWhatTheModelDoesSpec : ChangeSpec := { name := "doesWhatTheModelDoes", fn := fun _ => fun
  | [d] => { results := [.lit (.bool true)], args := [d] }
  | _ => none }
def doesWhatTheModelDoesRow : OpenClaim := { program := "qxb6500767a", sum := "8a492489fcfcdbc120786b9ced4360c663c3e5a766dee5ffd4d6ca405419133e", func := "e2e/unionvfslaw.DoesWhatTheModelDoes", spec := "doesWhatTheModelDoes", recurses := true, apart := false }
def DoesWhatTheModelDoesSaid : Prop := doesWhatTheModelDoesRow.holds Try.pinned (OpenSpec.ofChange doesWhatTheModelDoesSpec)

/-- ITS FALSE NEIGHBOUR: 'it returns false'. Refute it at one input. -/
def doesWhatTheModelDoesWrong : ChangeSpec := { name := "doesWhatTheModelDoes", fn := fun _ => fun
  | [d] => { results := [.lit (.bool false)], args := [d] }
  | _ => none }
def DoesWhatTheModelDoesWrongFalsely : Prop := doesWhatTheModelDoesRow.holds Try.pinned (OpenSpec.ofChange doesWhatTheModelDoesWrong)

/-- 'unionvfslaw.RefusedStepsChangeNothing': WHATEVER THE INPUT: true; the input reads as it did. -/
def refusedStepsChangeNothingSpec : ChangeSpec := { name := "refusedStepsChangeNothing", fn := fun _ => fun
  | [d] => { results := [.lit (.bool true)], args := [d] }
  | _ => none }
def refusedStepsChangeNothingRow : OpenClaim := { program := "qxb6500767a", sum := "8a492489fcfcdbc120786b9ced4360c663c3e5a766dee5ffd4d6ca405419133e", func := "e2e/unionvfslaw.RefusedStepsChangeNothing", spec := "refusedStepsChangeNothing", recurses := true, apart := false }
def RefusedStepsChangeNothingSaid : Prop := refusedStepsChangeNothingRow.holds Try.pinned (OpenSpec.ofChange refusedStepsChangeNothingSpec)

/-- ITS FALSE NEIGHBOUR: 'it returns false'. Refute it at one input. -/
def refusedStepsChangeNothingWrong : ChangeSpec := { name := "refusedStepsChangeNothing", fn := fun _ => fun
  | [d] => { results := [.lit (.bool false)], args := [d] }
  | _ => none }
def RefusedStepsChangeNothingWrongFalsely : Prop := refusedStepsChangeNothingRow.holds Try.pinned (OpenSpec.ofChange refusedStepsChangeNothingWrong)

/-- 'unionvfslaw.BadHandlesGetEBADF': WHATEVER THE INPUT: true; the input reads as it did. -/
def badHandlesGetEBADFSpec : ChangeSpec := { name := "badHandlesGetEBADF", fn := fun _ => fun
  | [d] => { results := [.lit (.bool true)], args := [d] }
  | _ => none }
def badHandlesGetEBADFRow : OpenClaim := { program := "qxb6500767a", sum := "8a492489fcfcdbc120786b9ced4360c663c3e5a766dee5ffd4d6ca405419133e", func := "e2e/unionvfslaw.BadHandlesGetEBADF", spec := "badHandlesGetEBADF", recurses := true, apart := false }
def BadHandlesGetEBADFSaid : Prop := badHandlesGetEBADFRow.holds Try.pinned (OpenSpec.ofChange badHandlesGetEBADFSpec)

/-- ITS FALSE NEIGHBOUR: 'it returns false'. Refute it at one input. -/
def badHandlesGetEBADFWrong : ChangeSpec := { name := "badHandlesGetEBADF", fn := fun _ => fun
  | [d] => { results := [.lit (.bool false)], args := [d] }
  | _ => none }
def BadHandlesGetEBADFWrongFalsely : Prop := badHandlesGetEBADFRow.holds Try.pinned (OpenSpec.ofChange badHandlesGetEBADFWrong)

/-- 'unionvfslaw.HandlesOutliveNames': WHATEVER THE INPUT: true; the input reads as it did. -/
def handlesOutliveNamesSpec : ChangeSpec := { name := "handlesOutliveNames", fn := fun _ => fun
  | [d] => { results := [.lit (.bool true)], args := [d] }
  | _ => none }
def handlesOutliveNamesRow : OpenClaim := { program := "qxb6500767a", sum := "8a492489fcfcdbc120786b9ced4360c663c3e5a766dee5ffd4d6ca405419133e", func := "e2e/unionvfslaw.HandlesOutliveNames", spec := "handlesOutliveNames", recurses := true, apart := false }
def HandlesOutliveNamesSaid : Prop := handlesOutliveNamesRow.holds Try.pinned (OpenSpec.ofChange handlesOutliveNamesSpec)

/-- ITS FALSE NEIGHBOUR: 'it returns false'. Refute it at one input. -/
def handlesOutliveNamesWrong : ChangeSpec := { name := "handlesOutliveNames", fn := fun _ => fun
  | [d] => { results := [.lit (.bool false)], args := [d] }
  | _ => none }
def HandlesOutliveNamesWrongFalsely : Prop := handlesOutliveNamesRow.holds Try.pinned (OpenSpec.ofChange handlesOutliveNamesWrong)

/-- 'unionvfslaw.OpenGivesTheLeastFreeHandle': WHATEVER THE INPUT: true; the input reads as it did. -/
def openGivesTheLeastFreeHandleSpec : ChangeSpec := { name := "openGivesTheLeastFreeHandle", fn := fun _ => fun
  | [d] => { results := [.lit (.bool true)], args := [d] }
  | _ => none }
def openGivesTheLeastFreeHandleRow : OpenClaim := { program := "qxb6500767a", sum := "8a492489fcfcdbc120786b9ced4360c663c3e5a766dee5ffd4d6ca405419133e", func := "e2e/unionvfslaw.OpenGivesTheLeastFreeHandle", spec := "openGivesTheLeastFreeHandle", recurses := true, apart := false }
def OpenGivesTheLeastFreeHandleSaid : Prop := openGivesTheLeastFreeHandleRow.holds Try.pinned (OpenSpec.ofChange openGivesTheLeastFreeHandleSpec)

/-- ITS FALSE NEIGHBOUR: 'it returns false'. Refute it at one input. -/
def openGivesTheLeastFreeHandleWrong : ChangeSpec := { name := "openGivesTheLeastFreeHandle", fn := fun _ => fun
  | [d] => { results := [.lit (.bool false)], args := [d] }
  | _ => none }
def OpenGivesTheLeastFreeHandleWrongFalsely : Prop := openGivesTheLeastFreeHandleRow.holds Try.pinned (OpenSpec.ofChange openGivesTheLeastFreeHandleWrong)

/-- 'unionvfslaw.PinsMatchHandles': WHATEVER THE INPUT: true; the input reads as it did. -/
def pinsMatchHandlesSpec : ChangeSpec := { name := "pinsMatchHandles", fn := fun _ => fun
  | [d] => { results := [.lit (.bool true)], args := [d] }
  | _ => none }
def pinsMatchHandlesRow : OpenClaim := { program := "qxb6500767a", sum := "8a492489fcfcdbc120786b9ced4360c663c3e5a766dee5ffd4d6ca405419133e", func := "e2e/unionvfslaw.PinsMatchHandles", spec := "pinsMatchHandles", recurses := true, apart := false }
def PinsMatchHandlesSaid : Prop := pinsMatchHandlesRow.holds Try.pinned (OpenSpec.ofChange pinsMatchHandlesSpec)

/-- ITS FALSE NEIGHBOUR: 'it returns false'. Refute it at one input. -/
def pinsMatchHandlesWrong : ChangeSpec := { name := "pinsMatchHandles", fn := fun _ => fun
  | [d] => { results := [.lit (.bool false)], args := [d] }
  | _ => none }
def PinsMatchHandlesWrongFalsely : Prop := pinsMatchHandlesRow.holds Try.pinned (OpenSpec.ofChange pinsMatchHandlesWrong)

/-- 'unionvfslaw.ReaddirPagesTile': WHATEVER THE INPUT: true; the input reads as it did. -/
def readdirPagesTileSpec : ChangeSpec := { name := "readdirPagesTile", fn := fun _ => fun
  | [d] => { results := [.lit (.bool true)], args := [d] }
  | _ => none }
def readdirPagesTileRow : OpenClaim := { program := "qxb6500767a", sum := "8a492489fcfcdbc120786b9ced4360c663c3e5a766dee5ffd4d6ca405419133e", func := "e2e/unionvfslaw.ReaddirPagesTile", spec := "readdirPagesTile", recurses := true, apart := false }
def ReaddirPagesTileSaid : Prop := readdirPagesTileRow.holds Try.pinned (OpenSpec.ofChange readdirPagesTileSpec)

/-- ITS FALSE NEIGHBOUR: 'it returns false'. Refute it at one input. -/
def readdirPagesTileWrong : ChangeSpec := { name := "readdirPagesTile", fn := fun _ => fun
  | [d] => { results := [.lit (.bool false)], args := [d] }
  | _ => none }
def ReaddirPagesTileWrongFalsely : Prop := readdirPagesTileRow.holds Try.pinned (OpenSpec.ofChange readdirPagesTileWrong)

end Rows
end Go.Proofs.Qxb6500767a
