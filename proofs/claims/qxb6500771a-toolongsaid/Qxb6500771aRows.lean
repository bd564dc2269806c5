/-
  No cell of these rows narrows 'for every input' (looked for: loops, veiled, ifaces, maps, wideKeys, modest, calm, conditions, laid).
  DERIVED. THE GIVEN ROWS OF THIS SEAT. 4 by the template 'for every input the law returns true; each argument reads behind the call as it read before'; 0 by the template 'total and deterministic' (their statements: Qxb6500771aTotals.lean).
  GIVEN WITH THE SEED: the statements are not yours to turn. If you find one false, say at which input.
  Laid BY PROGRAM, IN A SANDBOX (cutbox-rows.mjs): the forced cells as the released guide's own fill.sh prints them over the translation 0f4d5cbbb050d9f9… (all of the seat's roots in one cut). By AI agents, Wed Nov 11 2026. No macro, syntax, notation, axiom, sorry.
-/
import Derived.Test.Qxb6500771aChecked
import GoSem.Claim
import GoSem.ClaimJoined
import GoSem.ClaimMapViews
import Derived.JoinedTies
import Derived.KernelRfl
namespace Go.Proofs.Qxb6500771a
/- THE CELL 'sum', in the pinned program and in every row, IS THE sha256 OF THE DUMP (.gsa) THAT Qxb6500771aProg.lean LOADS. Nothing in Lean hashes anything: it is a label: what it is worth is what the hold of that sum in a sandbox is worth. -/
noncomputable def Try.pinned : Pinned := { name := "qxb6500771a", sum := "0f4d5cbbb050d9f9541f0fd615843b009b71542714d86e9895652654a993fa22", checked := Try.checked }
namespace Rows
def none {H : Type} : Left H := { results := [], args := [] }

/-- 'tokenlaw.HeaderCodec': WHATEVER THE INPUT: true; the input reads as it did. -/
def headerCodecSpec : ChangeSpec := { name := "headerCodec", fn := fun _ => fun
  | [d] => { results := [.lit (.bool true)], args := [d] }
  | _ => none }
def headerCodecRow : OpenClaim := { program := "qxb6500771a", sum := "0f4d5cbbb050d9f9541f0fd615843b009b71542714d86e9895652654a993fa22", func := "e2e/tokenlaw.HeaderCodec", spec := "headerCodec", apart := false }
def HeaderCodecSaid : Prop := headerCodecRow.holds Try.pinned (OpenSpec.ofChange headerCodecSpec)

/-- ITS FALSE NEIGHBOUR: 'it returns false'. Refute it at one input. -/
def headerCodecWrong : ChangeSpec := { name := "headerCodec", fn := fun _ => fun
  | [d] => { results := [.lit (.bool false)], args := [d] }
  | _ => none }
def HeaderCodecWrongFalsely : Prop := headerCodecRow.holds Try.pinned (OpenSpec.ofChange headerCodecWrong)

/-- 'tokenlaw.Rotation': WHATEVER THE INPUT: true; the input reads as it did. -/
def rotationSpec : ChangeSpec := { name := "rotation", fn := fun _ => fun
  | [d] => { results := [.lit (.bool true)], args := [d] }
  | _ => none }
def rotationRow : OpenClaim := { program := "qxb6500771a", sum := "0f4d5cbbb050d9f9541f0fd615843b009b71542714d86e9895652654a993fa22", func := "e2e/tokenlaw.Rotation", spec := "rotation", apart := false }
def RotationSaid : Prop := rotationRow.holds Try.pinned (OpenSpec.ofChange rotationSpec)

/-- ITS FALSE NEIGHBOUR: 'it returns false'. Refute it at one input. -/
def rotationWrong : ChangeSpec := { name := "rotation", fn := fun _ => fun
  | [d] => { results := [.lit (.bool false)], args := [d] }
  | _ => none }
def RotationWrongFalsely : Prop := rotationRow.holds Try.pinned (OpenSpec.ofChange rotationWrong)

/-- 'tokenlaw.TooLong': WHATEVER THE INPUT: true; the input reads as it did. -/
def tooLongSpec : ChangeSpec := { name := "tooLong", fn := fun _ => fun
  | [] => { results := [.lit (.bool true)], args := [] }
  | _ => none }
def tooLongRow : OpenClaim := { program := "qxb6500771a", sum := "0f4d5cbbb050d9f9541f0fd615843b009b71542714d86e9895652654a993fa22", func := "e2e/tokenlaw.TooLong", spec := "tooLong", apart := false }
def TooLongSaid : Prop := tooLongRow.holds Try.pinned (OpenSpec.ofChange tooLongSpec)

/-- ITS FALSE NEIGHBOUR: 'it returns false'. Refute it at one input. -/
def tooLongWrong : ChangeSpec := { name := "tooLong", fn := fun _ => fun
  | [] => { results := [.lit (.bool false)], args := [] }
  | _ => none }
def TooLongWrongFalsely : Prop := tooLongRow.holds Try.pinned (OpenSpec.ofChange tooLongWrong)

/-- 'tokenlaw.NamesDiffer': WHATEVER THE INPUT: true; the input reads as it did. -/
def namesDifferSpec : ChangeSpec := { name := "namesDiffer", fn := fun _ => fun
  | [] => { results := [.lit (.bool true)], args := [] }
  | _ => none }
def namesDifferRow : OpenClaim := { program := "qxb6500771a", sum := "0f4d5cbbb050d9f9541f0fd615843b009b71542714d86e9895652654a993fa22", func := "e2e/tokenlaw.NamesDiffer", spec := "namesDiffer", apart := false }
def NamesDifferSaid : Prop := namesDifferRow.holds Try.pinned (OpenSpec.ofChange namesDifferSpec)

/-- ITS FALSE NEIGHBOUR: 'it returns false'. Refute it at one input. -/
def namesDifferWrong : ChangeSpec := { name := "namesDiffer", fn := fun _ => fun
  | [] => { results := [.lit (.bool false)], args := [] }
  | _ => none }
def NamesDifferWrongFalsely : Prop := namesDifferRow.holds Try.pinned (OpenSpec.ofChange namesDifferWrong)

end Rows
end Go.Proofs.Qxb6500771a
