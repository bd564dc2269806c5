/-
  No cell of these rows narrows 'for every input' (looked for: loops, veiled, ifaces, maps, wideKeys, modest, calm, conditions, laid).
  DERIVED. THE GIVEN ROWS OF THIS SEAT. 3 by the template 'for every input the law returns true; each argument reads behind the call as it read before'; 0 by the template 'total and deterministic' (their statements: Qxb6500771aGreatTotals.lean).
  GIVEN WITH THE SEED: the statements are not yours to turn. If you find one false, say at which input.
  Laid BY PROGRAM, IN A SANDBOX (cutbox-rows.mjs): the forced cells as the released guide's own fill.sh prints them over the translation cd38bfd2ee068ef5… (all of the seat's roots in one cut). By AI agents, Wed Nov 11 2026. No macro, syntax, notation, axiom, sorry.
-/
import Derived.Test.Qxb6500771aGreatChecked
import GoSem.Claim
import GoSem.ClaimJoined
import GoSem.ClaimMapViews
import Derived.JoinedTies
import Derived.KernelRfl
namespace Go.Proofs.Qxb6500771aGreat
/- THE CELL 'sum', in the pinned program and in every row, IS THE sha256 OF THE DUMP (.gsa) THAT Qxb6500771aGreatProg.lean LOADS. Nothing in Lean hashes anything: it is a label: what it is worth is what the hold of that sum in a sandbox is worth. -/
noncomputable def Tryz.pinned : Pinned := { name := "qxb6500771agreat", sum := "cd38bfd2ee068ef52e9b3bc74888d8ee0079a18209fc308edc0be39f0307c330", checked := Tryz.checked }
namespace Rows
def none {H : Type} : Left H := { results := [], args := [] }

/-- 'tokenlaw.Lengths': WHATEVER THE INPUT: true; the input reads as it did. -/
def lengthsSpec : ChangeSpec := { name := "lengths", fn := fun _ => fun
  | [d] => { results := [.lit (.bool true)], args := [d] }
  | _ => none }
def lengthsRow : OpenClaim := { program := "qxb6500771agreat", sum := "cd38bfd2ee068ef52e9b3bc74888d8ee0079a18209fc308edc0be39f0307c330", func := "e2e/tokenlaw.Lengths", spec := "lengths", apart := false }
def LengthsSaid : Prop := lengthsRow.holds Tryz.pinned (OpenSpec.ofChange lengthsSpec)

/-- ITS FALSE NEIGHBOUR: 'it returns false'. Refute it at one input. -/
def lengthsWrong : ChangeSpec := { name := "lengths", fn := fun _ => fun
  | [d] => { results := [.lit (.bool false)], args := [d] }
  | _ => none }
def LengthsWrongFalsely : Prop := lengthsRow.holds Tryz.pinned (OpenSpec.ofChange lengthsWrong)

/-- 'tokenlaw.NotServed': WHATEVER THE INPUT: true; the input reads as it did. -/
def notServedSpec : ChangeSpec := { name := "notServed", fn := fun _ => fun
  | [d] => { results := [.lit (.bool true)], args := [d] }
  | _ => none }
def notServedRow : OpenClaim := { program := "qxb6500771agreat", sum := "cd38bfd2ee068ef52e9b3bc74888d8ee0079a18209fc308edc0be39f0307c330", func := "e2e/tokenlaw.NotServed", spec := "notServed", apart := false }
def NotServedSaid : Prop := notServedRow.holds Tryz.pinned (OpenSpec.ofChange notServedSpec)

/-- ITS FALSE NEIGHBOUR: 'it returns false'. Refute it at one input. -/
def notServedWrong : ChangeSpec := { name := "notServed", fn := fun _ => fun
  | [d] => { results := [.lit (.bool false)], args := [d] }
  | _ => none }
def NotServedWrongFalsely : Prop := notServedRow.holds Tryz.pinned (OpenSpec.ofChange notServedWrong)

/-- 'tokenlaw.AtTheLimit': WHATEVER THE INPUT: true; the input reads as it did. -/
def atTheLimitSpec : ChangeSpec := { name := "atTheLimit", fn := fun _ => fun
  | [] => { results := [.lit (.bool true)], args := [] }
  | _ => none }
def atTheLimitRow : OpenClaim := { program := "qxb6500771agreat", sum := "cd38bfd2ee068ef52e9b3bc74888d8ee0079a18209fc308edc0be39f0307c330", func := "e2e/tokenlaw.AtTheLimit", spec := "atTheLimit", apart := false }
def AtTheLimitSaid : Prop := atTheLimitRow.holds Tryz.pinned (OpenSpec.ofChange atTheLimitSpec)

/-- ITS FALSE NEIGHBOUR: 'it returns false'. Refute it at one input. -/
def atTheLimitWrong : ChangeSpec := { name := "atTheLimit", fn := fun _ => fun
  | [] => { results := [.lit (.bool false)], args := [] }
  | _ => none }
def AtTheLimitWrongFalsely : Prop := atTheLimitRow.holds Tryz.pinned (OpenSpec.ofChange atTheLimitWrong)

end Rows
end Go.Proofs.Qxb6500771aGreat
