/-
  No cell of these rows narrows 'for every input' (looked for: loops, veiled, ifaces, maps, wideKeys, modest, calm, conditions, laid).
  DERIVED. THE GIVEN ROWS OF THIS SEAT. 5 by the template 'for every input the law returns true; each argument reads behind the call as it read before'; 0 by the template 'total and deterministic' (their statements: Qxb6500766aTotals.lean).
  GIVEN WITH THE SEED: the statements are not yours to turn. If you find one false, say at which input.
  Laid BY PROGRAM, IN A SANDBOX (cutbox-rows.mjs): the forced cells as the released guide's own fill.sh prints them over the translation 1aaa11696f216b6e… (all of the seat's roots in one cut). By AI agents, Wed Nov 11 2026. No macro, syntax, notation, axiom, sorry.
-/
import Derived.Test.Qxb6500766aChecked
import GoSem.Claim
import GoSem.ClaimJoined
import GoSem.ClaimMapViews
import Derived.JoinedTies
import Derived.KernelRfl
namespace Go.Proofs.Qxb6500766a
/- THE CELL 'sum', in the pinned program and in every row, IS THE sha256 OF THE DUMP (.gsa) THAT Qxb6500766aProg.lean LOADS. Nothing in Lean hashes anything: it is a label: what it is worth is what the hold of that sum in a sandbox is worth. -/
noncomputable def Try.pinned : Pinned := { name := "qxb6500766a", sum := "1aaa11696f216b6ec5d8c9f33454ae6a017ea236ec27710c34b651bb8629e5a8", checked := Try.checked }
namespace Rows
def none {H : Type} : Left H := { results := [], args := [] }

/-- 'foldindexlaw.LookupEqualsLinearScan': WHATEVER THE INPUT: true; the input reads as it did. -/
def lookupEqualsLinearScanSpec : ChangeSpec := { name := "lookupEqualsLinearScan", fn := fun _ => fun
  | [d] => { results := [.lit (.bool true)], args := [d] }
  | _ => none }
def lookupEqualsLinearScanRow : OpenClaim := { program := "qxb6500766a", sum := "1aaa11696f216b6ec5d8c9f33454ae6a017ea236ec27710c34b651bb8629e5a8", func := "e2e/foldindexlaw.LookupEqualsLinearScan", spec := "lookupEqualsLinearScan", recurses := true, apart := false }
def LookupEqualsLinearScanSaid : Prop := lookupEqualsLinearScanRow.holds Try.pinned (OpenSpec.ofChange lookupEqualsLinearScanSpec)

/-- ITS FALSE NEIGHBOUR: 'it returns false'. Refute it at one input. -/
def lookupEqualsLinearScanWrong : ChangeSpec := { name := "lookupEqualsLinearScan", fn := fun _ => fun
  | [d] => { results := [.lit (.bool false)], args := [d] }
  | _ => none }
def LookupEqualsLinearScanWrongFalsely : Prop := lookupEqualsLinearScanRow.holds Try.pinned (OpenSpec.ofChange lookupEqualsLinearScanWrong)

/-- 'foldindexlaw.HistoryChangesNoAnswer': WHATEVER THE INPUT: true; the input reads as it did. -/
def historyChangesNoAnswerSpec : ChangeSpec := { name := "historyChangesNoAnswer", fn := fun _ => fun
  | [d] => { results := [.lit (.bool true)], args := [d] }
  | _ => none }
def historyChangesNoAnswerRow : OpenClaim := { program := "qxb6500766a", sum := "1aaa11696f216b6ec5d8c9f33454ae6a017ea236ec27710c34b651bb8629e5a8", func := "e2e/foldindexlaw.HistoryChangesNoAnswer", spec := "historyChangesNoAnswer", recurses := true, apart := false }
def HistoryChangesNoAnswerSaid : Prop := historyChangesNoAnswerRow.holds Try.pinned (OpenSpec.ofChange historyChangesNoAnswerSpec)

/-- ITS FALSE NEIGHBOUR: 'it returns false'. Refute it at one input. -/
def historyChangesNoAnswerWrong : ChangeSpec := { name := "historyChangesNoAnswer", fn := fun _ => fun
  | [d] => { results := [.lit (.bool false)], args := [d] }
  | _ => none }
def HistoryChangesNoAnswerWrongFalsely : Prop := historyChangesNoAnswerRow.holds Try.pinned (OpenSpec.ofChange historyChangesNoAnswerWrong)

/-- 'foldindexlaw.DoesWhatTheModelDoes': WHATEVER THE INPUT: true; the input reads as it did. -/
def doesWhatTheModelDoesSpec : ChangeSpec := { name := "doesWhatTheModelDoes", fn := fun _ => fun
  | [d] => { results := [.lit (.bool true)], args := [d] }
  | _ => none }
def doesWhatTheModelDoesRow : OpenClaim := { program := "qxb6500766a", sum := "1aaa11696f216b6ec5d8c9f33454ae6a017ea236ec27710c34b651bb8629e5a8", func := "e2e/foldindexlaw.DoesWhatTheModelDoes", spec := "doesWhatTheModelDoes", recurses := true, apart := false }
def DoesWhatTheModelDoesSaid : Prop := doesWhatTheModelDoesRow.holds Try.pinned (OpenSpec.ofChange doesWhatTheModelDoesSpec)

/-- ITS FALSE NEIGHBOUR: 'it returns false'. Refute it at one input. -/
def doesWhatTheModelDoesWrong : ChangeSpec := { name := "doesWhatTheModelDoes", fn := fun _ => fun
  | [d] => { results := [.lit (.bool false)], args := [d] }
  | _ => none }
def DoesWhatTheModelDoesWrongFalsely : Prop := doesWhatTheModelDoesRow.holds Try.pinned (OpenSpec.ofChange doesWhatTheModelDoesWrong)

/-- 'foldindexlaw.StaysSound': WHATEVER THE INPUT: true; the input reads as it did. -/
def staysSoundSpec : ChangeSpec := { name := "staysSound", fn := fun _ => fun
  | [d] => { results := [.lit (.bool true)], args := [d] }
  | _ => none }
def staysSoundRow : OpenClaim := { program := "qxb6500766a", sum := "1aaa11696f216b6ec5d8c9f33454ae6a017ea236ec27710c34b651bb8629e5a8", func := "e2e/foldindexlaw.StaysSound", spec := "staysSound", recurses := true, apart := false }
def StaysSoundSaid : Prop := staysSoundRow.holds Try.pinned (OpenSpec.ofChange staysSoundSpec)

/-- ITS FALSE NEIGHBOUR: 'it returns false'. Refute it at one input. -/
def staysSoundWrong : ChangeSpec := { name := "staysSound", fn := fun _ => fun
  | [d] => { results := [.lit (.bool false)], args := [d] }
  | _ => none }
def StaysSoundWrongFalsely : Prop := staysSoundRow.holds Try.pinned (OpenSpec.ofChange staysSoundWrong)

/-- 'foldindexlaw.NextWalksTheKeys': WHATEVER THE INPUT: true; the input reads as it did. -/
def nextWalksTheKeysSpec : ChangeSpec := { name := "nextWalksTheKeys", fn := fun _ => fun
  | [d] => { results := [.lit (.bool true)], args := [d] }
  | _ => none }
def nextWalksTheKeysRow : OpenClaim := { program := "qxb6500766a", sum := "1aaa11696f216b6ec5d8c9f33454ae6a017ea236ec27710c34b651bb8629e5a8", func := "e2e/foldindexlaw.NextWalksTheKeys", spec := "nextWalksTheKeys", recurses := true, apart := false }
def NextWalksTheKeysSaid : Prop := nextWalksTheKeysRow.holds Try.pinned (OpenSpec.ofChange nextWalksTheKeysSpec)

/-- ITS FALSE NEIGHBOUR: 'it returns false'. Refute it at one input. -/
def nextWalksTheKeysWrong : ChangeSpec := { name := "nextWalksTheKeys", fn := fun _ => fun
  | [d] => { results := [.lit (.bool false)], args := [d] }
  | _ => none }
def NextWalksTheKeysWrongFalsely : Prop := nextWalksTheKeysRow.holds Try.pinned (OpenSpec.ofChange nextWalksTheKeysWrong)

end Rows
end Go.Proofs.Qxb6500766a
