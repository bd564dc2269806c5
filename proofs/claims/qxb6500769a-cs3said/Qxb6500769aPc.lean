/- AES: the columns. -/
import Derived.Test.Qxb6500769aPb
namespace Go.Proofs.Qxb6500769a
open Go.RowKit Go.Qm
set_option linter.unusedVariables false
set_option linter.unusedSimpArgs false
theorem u8_div_xor (x y : UInt8) : (x ^^^ y) / 2 = x / 2 ^^^ y / 2 := by
  apply UInt8.toNat_inj.1
  rw [UInt8.toNat_div, UInt8.toNat_xor, UInt8.toNat_xor, UInt8.toNat_div, UInt8.toNat_div]
  show (x.toNat ^^^ y.toNat) / 2 = x.toNat / 2 ^^^ y.toNat / 2
  exact Nat.xor_div_two
theorem tb_xor (x y : UInt8) : ∀ k, tb (x ^^^ y) k = tb x k ^^^ tb y k
  | 0 => rfl
  | k + 1 => by rw [tb, tb, tb, tb_xor x y k, u8_div_xor]
theorem u8_par (x y : UInt8) : (x ^^^ y).toNat % 2 = (x.toNat % 2 + y.toNat % 2) % 2 := by
  have h := Nat.xor_mod_two_pow (a := x.toNat) (b := y.toNat) (n := 1)
  rw [Nat.pow_one] at h
  rw [UInt8.toNat_xor, h]
  rcases Nat.mod_two_eq_zero_or_one x.toNat with h1 | h1 <;> rcases Nat.mod_two_eq_zero_or_one y.toNat with h2 | h2 <;> rw [h1, h2] <;> rfl
theorem tp_xor (a x y : UInt8) : ∀ k, tp a (x ^^^ y) k = tp a x k ^^^ tp a y k
  | 0 => by simp [tp]
  | k + 1 => by
    rw [tp, tp, tp, tp_xor a x y k, tb_xor, u8_par]
    generalize ta a k = t
    generalize tp a x k = p
    generalize tp a y k = q
    rcases Nat.mod_two_eq_zero_or_one (tb x k).toNat with h1 | h1 <;> rcases Nat.mod_two_eq_zero_or_one (tb y k).toNat with h2 | h2 <;> rw [h1, h2]
    · simp
    · simp [UInt8.xor_assoc]
    · simp only [if_true, if_false]
      have : p ^^^ q ^^^ t = p ^^^ t ^^^ q := by rw [UInt8.xor_assoc, UInt8.xor_comm q t, ← UInt8.xor_assoc]
      simpa using this
    · have : p ^^^ t ^^^ (q ^^^ t) = p ^^^ q := by
        rw [UInt8.xor_assoc, UInt8.xor_comm q t, ← UInt8.xor_assoc t t q]; simp
      simpa using this.symm
theorem tmul_xor (a x y : UInt8) : tmul a (x ^^^ y) = tmul a x ^^^ tmul a y := tp_xor a x y 8
end Go.Proofs.Qxb6500769a
