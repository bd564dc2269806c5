/-
  No cell of these rows narrows 'for every input' (looked for: loops, veiled, ifaces, maps, wideKeys, modest, calm, conditions, laid).
  DERIVED. THE GIVEN ROWS OF THIS SEAT. 2 by the template 'for every input the law returns true; each argument reads behind the call as it read before'; 0 by the template 'total and deterministic' (their statements: Qxb6500770aTotals.lean).
  GIVEN WITH THE SEED: the statements are not yours to turn. If you find one false, say at which input.
  Laid BY PROGRAM, IN A SANDBOX (cutbox-rows.mjs): the forced cells as the released guide's own fill.sh prints them over the translation 24837d0a3acbf1e7… (all of the seat's roots in one cut). By AI agents, Wed Nov 11 2026. No macro, syntax, notation, axiom, sorry.
-/
import Derived.Test.Qxb6500770aChecked
import GoSem.Claim
import GoSem.ClaimJoined
import GoSem.ClaimMapViews
import Derived.JoinedTies
import Derived.KernelRfl
namespace Go.Proofs.Qxb6500770a
/- THE CELL 'sum', in the pinned program and in every row, IS THE sha256 OF THE DUMP (.gsa) THAT Qxb6500770aProg.lean LOADS. Nothing in Lean hashes anything: it is a label: what it is worth is what the hold of that sum in a sandbox is worth. -/
noncomputable def Try.pinned : Pinned := { name := "qxb6500770a", sum := "24837d0a3acbf1e7624187e7a2d094eecfde7224f5d64e8e1c044bf5f6bcb140", checked := Try.checked }
namespace Rows
def none {H : Type} : Left H := { results := [], args := [] }

/-- 'octetslaw.RotationFar': WHATEVER THE INPUT: true; the input reads as it did. -/
def rotationFarSpec : ChangeSpec := { name := "rotationFar", fn := fun _ => fun
  | [d] => { results := [.lit (.bool true)], args := [d] }
  | _ => none }
def rotationFarRow : OpenClaim := { program := "qxb6500770a", sum := "24837d0a3acbf1e7624187e7a2d094eecfde7224f5d64e8e1c044bf5f6bcb140", func := "e2e/octetslaw.RotationFar", spec := "rotationFar", apart := false }
def RotationFarSaid : Prop := rotationFarRow.holds Try.pinned (OpenSpec.ofChange rotationFarSpec)

/-- ITS FALSE NEIGHBOUR: 'it returns false'. Refute it at one input. -/
def rotationFarWrong : ChangeSpec := { name := "rotationFar", fn := fun _ => fun
  | [d] => { results := [.lit (.bool false)], args := [d] }
  | _ => none }
def RotationFarWrongFalsely : Prop := rotationFarRow.holds Try.pinned (OpenSpec.ofChange rotationFarWrong)

/-- 'octetslaw.CompareAndUTF16': WHATEVER THE INPUT: true; the input reads as it did. -/
def compareAndUTF16Spec : ChangeSpec := { name := "compareAndUTF16", fn := fun _ => fun
  | [d] => { results := [.lit (.bool true)], args := [d] }
  | _ => none }
def compareAndUTF16Row : OpenClaim := { program := "qxb6500770a", sum := "24837d0a3acbf1e7624187e7a2d094eecfde7224f5d64e8e1c044bf5f6bcb140", func := "e2e/octetslaw.CompareAndUTF16", spec := "compareAndUTF16", apart := false }
def CompareAndUTF16Said : Prop := compareAndUTF16Row.holds Try.pinned (OpenSpec.ofChange compareAndUTF16Spec)

/-- ITS FALSE NEIGHBOUR: 'it returns false'. Refute it at one input. -/
def compareAndUTF16Wrong : ChangeSpec := { name := "compareAndUTF16", fn := fun _ => fun
  | [d] => { results := [.lit (.bool false)], args := [d] }
  | _ => none }
def CompareAndUTF16WrongFalsely : Prop := compareAndUTF16Row.holds Try.pinned (OpenSpec.ofChange compareAndUTF16Wrong)

end Rows
end Go.Proofs.Qxb6500770a
