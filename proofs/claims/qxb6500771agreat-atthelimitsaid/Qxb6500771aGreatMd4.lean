/- digestm.md4. -/
import Derived.Test.Qxb6500771aGreatArr
namespace Go.Proofs.Qxb6500771aGreat
open Go.RowKit Go.Qm
set_option linter.unusedVariables false
set_option linter.unusedSimpArgs false
attribute [local go_sem ↓] Go.wp_at_zero Go.wp_at_succ

/-- f, k times, told the number of the turn. -/
def it {α : Type} (f : Nat → α → α) (s : α) : Nat → α
  | 0 => s
  | k + 1 => f k (it f s k)
theorem w32 (x : Int) : IntKind.u32.wrap x = x % 4294967296 := by simp [IntKind.wrap, IntKind.signed, IntKind.bits]
abbrev R4 := Int × Int × Int × Int
abbrev an (x y : Int) : Int := bits .and .u32 x y
abbrev orr (x y : Int) : Int := bits .or .u32 x y
abbrev xo (x y : Int) : Int := bits .xor .u32 x y
abbrev no (x : Int) : Int := bits .xor .u32 IntKind.u32.max x
abbrev wr32 (x : Int) : Int := IntKind.u32.wrap x
end Go.Proofs.Qxb6500771aGreat
