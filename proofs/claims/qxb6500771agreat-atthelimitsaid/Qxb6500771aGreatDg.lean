/- digestm: the small functions under the hashes. -/
import Derived.Test.Qxb6500771aGreatOct
namespace Go.Proofs.Qxb6500771aGreat
open Go.RowKit Go.Qm
set_option linter.unusedVariables false
set_option linter.unusedSimpArgs false

def rl (x : Int) (n : Nat) : Int := bits .or .u32 (x * 2 ^ n % 4294967296) (x / 2 ^ (32 - n))
def rr (x : Int) (n : Nat) : Int := bits .or .u32 (x / 2 ^ n) (x * 2 ^ (32 - n) % 4294967296)
def rr64 (x : Int) (n : Nat) : Int := bits .or .u64 (x / 2 ^ n) (x * 2 ^ (64 - n) % 18446744073709551616)
theorem rotl_c (x : Int) (n : Nat) (w : World) (hn : n ≤ 32) : Calls Tryz.prog 121 #[.int .u32 x, .int .u64 n] w fun e w' => e = .returned (.int .u32 (rl x n)) ∧ w' = w := by
  have h1 : IntKind.u64.wrap (32 - (n : Int)) = ((32 - n : Nat) : Int) := by simp [IntKind.wrap, IntKind.signed, IntKind.bits]; omega
  have h2 : ¬ (n : Int) < 0 := by omega
  have h3 : ¬ ((32 - n : Nat) : Int) < 0 := by omega
  go_enter Tryz.func121, Tryz.ntmps121
  go_wp2
  go_ret
  exact ⟨rfl, rfl⟩
theorem rotr_c (x : Int) (n : Nat) (w : World) (hn : n ≤ 32) : Calls Tryz.prog 123 #[.int .u32 x, .int .u64 n] w fun e w' => e = .returned (.int .u32 (rr x n)) ∧ w' = w := by
  have h1 : IntKind.u64.wrap (32 - (n : Int)) = ((32 - n : Nat) : Int) := by simp [IntKind.wrap, IntKind.signed, IntKind.bits]; omega
  have h2 : ¬ (n : Int) < 0 := by omega
  have h3 : ¬ ((32 - n : Nat) : Int) < 0 := by omega
  go_enter Tryz.func123, Tryz.ntmps123
  go_wp2
  go_ret
  exact ⟨rfl, rfl⟩
theorem rotr64_c (x : Int) (n : Nat) (w : World) (hn : n ≤ 64) : Calls Tryz.prog 125 #[.int .u64 x, .int .u64 n] w fun e w' => e = .returned (.int .u64 (rr64 x n)) ∧ w' = w := by
  have h1 : IntKind.u64.wrap (64 - (n : Int)) = ((64 - n : Nat) : Int) := by simp [IntKind.wrap, IntKind.signed, IntKind.bits]; omega
  have h2 : ¬ (n : Int) < 0 := by omega
  have h3 : ¬ ((64 - n : Nat) : Int) < 0 := by omega
  go_enter Tryz.func125, Tryz.ntmps125
  go_wp2
  go_ret
  exact ⟨rfl, rfl⟩

def pk (i a b c d : Nat) : Nat := if i % 4 = 0 then a else if i % 4 = 1 then b else if i % 4 = 2 then c else d
theorem pk_le {i a b c d m : Nat} (ha : a ≤ m) (hb : b ≤ m) (hc : c ≤ m) (hd : d ≤ m) : pk i a b c d ≤ m := by
  unfold pk; split <;> (try split) <;> (try split) <;> assumption
/-- The four digits of a word. -/
def n64 (x : Int) : Nat := (x % 18446744073709551616).toNat
theorem n64_eq (x : Int) : IntKind.u64.wrap x = (n64 x : Int) := by
  have : IntKind.u64.wrap x = x % 18446744073709551616 := by simp [IntKind.wrap, IntKind.signed, IntKind.bits]
  rw [this]; unfold n64; omega
theorem n64_lt (x : Int) : n64 x < 2 ^ 64 := by unfold n64; omega
def le4 (x : Int) : List UInt8 := (dig (n64 x) 4).reverse
theorem le4_length (x : Int) : (le4 x).length = 4 := by simp [le4, dig_length]
theorem digits64_c (x : Int) (n : Nat) (w : World) (hn : n ≤ 1000) : Calls Tryz.prog 70 #[.int .u64 (n64 x : Int), .int .i64 n] w fun e w' => ∃ v', e = .returned v' ∧ Own w.heap.size 5 w' v' ((dig (n64 x) n).map cb) ∧ Keep w w' := digits_c (n64 x) n w (n64_lt x) hn
theorem digits4_c (x : Int) (w : World) : Calls Tryz.prog 70 #[.int .u64 (n64 x : Int), .int .i64 4] w fun e w' => ∃ v', e = .returned v' ∧ Own w.heap.size 5 w' v' ((dig (n64 x) 4).map cb) ∧ Keep w w' := digits64_c x 4 w (by omega)
def spell (a b c d : Int) : List UInt8 := le4 a ++ le4 b ++ le4 c ++ le4 d
theorem spell_length (a b c d : Int) : (spell a b c d).length = 16 := by simp [spell, le4_length]
end Go.Proofs.Qxb6500771aGreat
