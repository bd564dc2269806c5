/-
  No cell of these rows narrows 'for every input' (looked for: loops, veiled, ifaces, maps, wideKeys, modest, calm, conditions, laid).
  DERIVED. THE GIVEN ROWS OF THIS SEAT. 4 by the template 'for every input the law returns true; each argument reads behind the call as it read before'; 0 by the template 'total and deterministic' (their statements: Qxb6500769aTotals.lean).
  GIVEN WITH THE SEED: the statements are not yours to turn. If you find one false, say at which input.
  Laid BY PROGRAM, IN A SANDBOX (cutbox-rows.mjs): the forced cells as the released guide's own fill.sh prints them over the translation 7887221bad01d962… (all of the seat's roots in one cut). By AI agents, Wed Nov 11 2026. No macro, syntax, notation, axiom, sorry.
-/
import Derived.Test.Qxb6500769aChecked
import GoSem.Claim
import GoSem.ClaimJoined
import GoSem.ClaimMapViews
import Derived.JoinedTies
import Derived.KernelRfl
namespace Go.Proofs.Qxb6500769a
/- THE CELL 'sum', in the pinned program and in every row, IS THE sha256 OF THE DUMP (.gsa) THAT Qxb6500769aProg.lean LOADS. Nothing in Lean hashes anything: it is a label: what it is worth is what the hold of that sum in a sandbox is worth. -/
noncomputable def Try.pinned : Pinned := { name := "qxb6500769a", sum := "7887221bad01d9629f0a407d11990f1fedfed746c1e0d45147e498c39c61e636", checked := Try.checked }
namespace Rows
def none {H : Type} : Left H := { results := [], args := [] }

/-- 'modeslaw.HMACFormula': WHATEVER THE INPUT: true; the input reads as it did. -/
def hMACFormulaSpec : ChangeSpec := { name := "hMACFormula", fn := fun _ => fun
  | [d] => { results := [.lit (.bool true)], args := [d] }
  | _ => none }
def hMACFormulaRow : OpenClaim := { program := "qxb6500769a", sum := "7887221bad01d9629f0a407d11990f1fedfed746c1e0d45147e498c39c61e636", func := "e2e/modeslaw.HMACFormula", spec := "hMACFormula", apart := false }
def HMACFormulaSaid : Prop := hMACFormulaRow.holds Try.pinned (OpenSpec.ofChange hMACFormulaSpec)

/-- ITS FALSE NEIGHBOUR: 'it returns false'. Refute it at one input. -/
def hMACFormulaWrong : ChangeSpec := { name := "hMACFormula", fn := fun _ => fun
  | [d] => { results := [.lit (.bool false)], args := [d] }
  | _ => none }
def HMACFormulaWrongFalsely : Prop := hMACFormulaRow.holds Try.pinned (OpenSpec.ofChange hMACFormulaWrong)

/-- 'modeslaw.CMACDefinition': WHATEVER THE INPUT: true; the input reads as it did. -/
def cMACDefinitionSpec : ChangeSpec := { name := "cMACDefinition", fn := fun _ => fun
  | [d] => { results := [.lit (.bool true)], args := [d] }
  | _ => none }
def cMACDefinitionRow : OpenClaim := { program := "qxb6500769a", sum := "7887221bad01d9629f0a407d11990f1fedfed746c1e0d45147e498c39c61e636", func := "e2e/modeslaw.CMACDefinition", spec := "cMACDefinition", apart := false }
def CMACDefinitionSaid : Prop := cMACDefinitionRow.holds Try.pinned (OpenSpec.ofChange cMACDefinitionSpec)

/-- ITS FALSE NEIGHBOUR: 'it returns false'. Refute it at one input. -/
def cMACDefinitionWrong : ChangeSpec := { name := "cMACDefinition", fn := fun _ => fun
  | [d] => { results := [.lit (.bool false)], args := [d] }
  | _ => none }
def CMACDefinitionWrongFalsely : Prop := cMACDefinitionRow.holds Try.pinned (OpenSpec.ofChange cMACDefinitionWrong)

/-- 'modeslaw.CS3': WHATEVER THE INPUT: true; the input reads as it did. -/
def cS3Spec : ChangeSpec := { name := "cS3", fn := fun _ => fun
  | [d] => { results := [.lit (.bool true)], args := [d] }
  | _ => none }
def cS3Row : OpenClaim := { program := "qxb6500769a", sum := "7887221bad01d9629f0a407d11990f1fedfed746c1e0d45147e498c39c61e636", func := "e2e/modeslaw.CS3", spec := "cS3", apart := false }
def CS3Said : Prop := cS3Row.holds Try.pinned (OpenSpec.ofChange cS3Spec)

/-- ITS FALSE NEIGHBOUR: 'it returns false'. Refute it at one input. -/
def cS3Wrong : ChangeSpec := { name := "cS3", fn := fun _ => fun
  | [d] => { results := [.lit (.bool false)], args := [d] }
  | _ => none }
def CS3WrongFalsely : Prop := cS3Row.holds Try.pinned (OpenSpec.ofChange cS3Wrong)

/-- 'modeslaw.PBKDF2Formula': WHATEVER THE INPUT: true; the input reads as it did. -/
def pBKDF2FormulaSpec : ChangeSpec := { name := "pBKDF2Formula", fn := fun _ => fun
  | [d] => { results := [.lit (.bool true)], args := [d] }
  | _ => none }
def pBKDF2FormulaRow : OpenClaim := { program := "qxb6500769a", sum := "7887221bad01d9629f0a407d11990f1fedfed746c1e0d45147e498c39c61e636", func := "e2e/modeslaw.PBKDF2Formula", spec := "pBKDF2Formula", apart := false }
def PBKDF2FormulaSaid : Prop := pBKDF2FormulaRow.holds Try.pinned (OpenSpec.ofChange pBKDF2FormulaSpec)

/-- ITS FALSE NEIGHBOUR: 'it returns false'. Refute it at one input. -/
def pBKDF2FormulaWrong : ChangeSpec := { name := "pBKDF2Formula", fn := fun _ => fun
  | [d] => { results := [.lit (.bool false)], args := [d] }
  | _ => none }
def PBKDF2FormulaWrongFalsely : Prop := pBKDF2FormulaRow.holds Try.pinned (OpenSpec.ofChange pBKDF2FormulaWrong)

end Rows
end Go.Proofs.Qxb6500769a
