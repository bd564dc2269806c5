/- Camellia: words, and the two functions FL that undo each other. -/
import Derived.Test.Qxb6500769aDl
namespace Go.Proofs.Qxb6500769a
open Go.RowKit Go.Qm
set_option linter.unusedVariables false
set_option linter.unusedSimpArgs false
theorem xor64_eq (a b : Int) : bits .xor .u64 a b = ((BitVec.ofInt 64 a ^^^ BitVec.ofInt 64 b).toNat : Int) := by
  show IntKind.u64.wrap ((BitVec.ofInt 64 a ^^^ BitVec.ofInt 64 b).toNat : Int) = _
  have h := (BitVec.ofInt 64 a ^^^ BitVec.ofInt 64 b).isLt
  generalize (BitVec.ofInt 64 a ^^^ BitVec.ofInt 64 b).toNat = n at *
  simp [IntKind.wrap, IntKind.signed, IntKind.bits]
  omega
theorem xor32_eq (a b : Int) : bits .xor .u32 a b = ((BitVec.ofInt 32 a ^^^ BitVec.ofInt 32 b).toNat : Int) := by
  show IntKind.u32.wrap ((BitVec.ofInt 32 a ^^^ BitVec.ofInt 32 b).toNat : Int) = _
  have h := (BitVec.ofInt 32 a ^^^ BitVec.ofInt 32 b).isLt
  generalize (BitVec.ofInt 32 a ^^^ BitVec.ofInt 32 b).toNat = n at *
  simp [IntKind.wrap, IntKind.signed, IntKind.bits]
  omega
theorem xor64_x (a b : Int) (h : 0 ≤ a ∧ a < 18446744073709551616) : bits .xor .u64 (bits .xor .u64 a b) b = a := by
  rw [xor64_eq, xor64_eq, BitVec.ofInt_natCast, BitVec.ofNat_toNat, BitVec.setWidth_eq, BitVec.xor_assoc, BitVec.xor_self, BitVec.xor_zero, BitVec.toNat_ofInt]
  omega
theorem xor32_x (a b : Int) (h : 0 ≤ a ∧ a < 4294967296) : bits .xor .u32 (bits .xor .u32 a b) b = a := by
  rw [xor32_eq, xor32_eq, BitVec.ofInt_natCast, BitVec.ofNat_toNat, BitVec.setWidth_eq, BitVec.xor_assoc, BitVec.xor_self, BitVec.xor_zero, BitVec.toNat_ofInt]
  omega
theorem xor32_lt (a b : Int) : 0 ≤ bits .xor .u32 a b ∧ bits .xor .u32 a b < 4294967296 := by
  have h := (BitVec.ofInt 32 a ^^^ BitVec.ofInt 32 b).isLt
  rw [xor32_eq]
  omega
theorem or64_eq (a b : Nat) (ha : a < 18446744073709551616) (hb : b < 18446744073709551616) : bits .or .u64 (a : Int) (b : Int) = ((a ||| b : Nat) : Int) := by
  show IntKind.u64.wrap ((BitVec.ofInt 64 (a : Int) ||| BitVec.ofInt 64 (b : Int)).toNat : Int) = _
  have h := (BitVec.ofInt 64 (a : Int) ||| BitVec.ofInt 64 (b : Int)).isLt
  have e : (BitVec.ofInt 64 (a : Int) ||| BitVec.ofInt 64 (b : Int)).toNat = a ||| b := by
    rw [BitVec.ofInt_natCast, BitVec.ofInt_natCast, BitVec.toNat_or, BitVec.toNat_ofNat, BitVec.toNat_ofNat, Nat.mod_eq_of_lt ha, Nat.mod_eq_of_lt hb]
  rw [e] at h ⊢
  generalize (a ||| b) = n at *
  simp [IntKind.wrap, IntKind.signed, IntKind.bits]
  omega
theorem cOut_eq (a b : Int) (ha : 0 ≤ a ∧ a < 4294967296) (hb : 0 ≤ b ∧ b < 4294967296) : cOut a b = a * 4294967296 + b := by
  obtain ⟨m, rfl⟩ := Int.eq_ofNat_of_zero_le ha.1
  obtain ⟨n, rfl⟩ := Int.eq_ofNat_of_zero_le hb.1
  have w1 : ∀ x : Nat, x < 18446744073709551616 → IntKind.u64.wrap (x : Int) = (x : Int) := by
    intro x hx
    simp [IntKind.wrap, IntKind.signed, IntKind.bits]; omega
  unfold cOut
  rw [w1 m (by omega), w1 n (by omega), show ((m : Int) * 4294967296) = ((m * 4294967296 : Nat) : Int) by omega, w1 _ (by omega), or64_eq _ _ (by omega) (by omega)]
  have h := Nat.two_pow_add_eq_or_of_lt (i := 32) (b := n) (by omega) m
  have e : m * 4294967296 ||| n = m * 4294967296 + n := by rw [Nat.mul_comm]; exact h.symm
  rw [e]
  omega
theorem cFI_cFL (x k : Int) (h : 0 ≤ x ∧ x < 18446744073709551616) : cFI (cFL x k) k = x := by
  have l2 := xor32_lt (x % 4294967296) (rl32 (bits .and .u32 (x / 4294967296 % 4294967296) (k / 4294967296 % 4294967296)))
  have l1 := xor32_lt (x / 4294967296 % 4294967296) (bits .or .u32 (cFL2 x k) (k % 4294967296))
  have x1 := xor32_x (x / 4294967296 % 4294967296) (bits .or .u32 (cFL2 x k) (k % 4294967296)) (by omega)
  have x2 := xor32_x (x % 4294967296) (rl32 (bits .and .u32 (x / 4294967296 % 4294967296) (k / 4294967296 % 4294967296))) (by omega)
  have e : cFL x k = bits .xor .u32 (x / 4294967296 % 4294967296) (bits .or .u32 (cFL2 x k) (k % 4294967296)) * 4294967296 + cFL2 x k := cOut_eq _ _ l1 l2
  have d1 : cFL x k / 4294967296 % 4294967296 = bits .xor .u32 (x / 4294967296 % 4294967296) (bits .or .u32 (cFL2 x k) (k % 4294967296)) := by
    have l2' : 0 ≤ cFL2 x k ∧ cFL2 x k < 4294967296 := l2
    rw [e]; omega
  have d2 : cFL x k % 4294967296 = cFL2 x k := by
    have l2' : 0 ≤ cFL2 x k ∧ cFL2 x k < 4294967296 := l2
    rw [e]; omega
  have i1 : cFI1 (cFL x k) k = x / 4294967296 % 4294967296 := by unfold cFI1; rw [d1, d2]; exact x1
  unfold cFI
  rw [i1, d2]
  have i2 : bits .xor .u32 (cFL2 x k) (rl32 (bits .and .u32 (x / 4294967296 % 4294967296) (k / 4294967296 % 4294967296))) = x % 4294967296 := x2
  rw [i2, cOut_eq _ _ (by omega) (by omega)]
  omega
theorem cFL_cFI (y k : Int) (h : 0 ≤ y ∧ y < 18446744073709551616) : cFL (cFI y k) k = y := by
  have l1 : 0 ≤ cFI1 y k ∧ cFI1 y k < 4294967296 := xor32_lt _ _
  have l2 := xor32_lt (y % 4294967296) (rl32 (bits .and .u32 (cFI1 y k) (k / 4294967296 % 4294967296)))
  have x2 := xor32_x (y % 4294967296) (rl32 (bits .and .u32 (cFI1 y k) (k / 4294967296 % 4294967296))) (by omega)
  have x1 := xor32_x (y / 4294967296 % 4294967296) (bits .or .u32 (y % 4294967296) (k % 4294967296)) (by omega)
  have e : cFI y k = cFI1 y k * 4294967296 + bits .xor .u32 (y % 4294967296) (rl32 (bits .and .u32 (cFI1 y k) (k / 4294967296 % 4294967296))) := cOut_eq _ _ l1 l2
  have d1 : cFI y k / 4294967296 % 4294967296 = cFI1 y k := by rw [e]; omega
  have d2 : cFI y k % 4294967296 = bits .xor .u32 (y % 4294967296) (rl32 (bits .and .u32 (cFI1 y k) (k / 4294967296 % 4294967296))) := by rw [e]; omega
  have i2 : cFL2 (cFI y k) k = y % 4294967296 := by unfold cFL2; rw [d1, d2]; exact x2
  unfold cFL
  rw [i2, d1]
  have i1 : bits .xor .u32 (cFI1 y k) (bits .or .u32 (y % 4294967296) (k % 4294967296)) = y / 4294967296 % 4294967296 := x1
  rw [i1, cOut_eq _ _ (by omega) (by omega)]
  omega
theorem led_cons (v : Nat) : ∀ k, led v (k + 1) = UInt8.ofNat (v % 256) :: led (v / 256) k
  | 0 => by simp [led]
  | k + 1 => by
    rw [led, led_cons v k, led, List.cons_append, Nat.pow_succ', Nat.div_div_eq_div_mul]
theorem dig_snoc (v k : Nat) : dig v (k + 1) = dig (v / 256) k ++ [UInt8.ofNat (v % 256)] := by
  rw [dig, led_cons, List.reverse_cons]; rfl
theorem num_snoc (l : List UInt8) (x : UInt8) : num (l ++ [x]) = num l * 256 + x.toNat := by
  rw [num, List.foldl_append]; rfl
theorem num_dig : ∀ k v, v < 256 ^ k → num (dig v k) = v
  | 0, v, h => by
    have : v = 0 := by simpa using h
    subst this; rfl
  | k + 1, v, h => by
    rw [dig_snoc, num_snoc, num_dig k (v / 256) (by rw [Nat.pow_succ] at h; omega), UInt8.toNat_ofNat', Nat.mod_mod]
    omega
theorem dig_num : ∀ k (l : List UInt8), l.length = k → dig (num l) k = l
  | 0, l, h => by
    rw [List.length_eq_zero_iff.1 h]; rfl
  | k + 1, l, h => by
    have hne : l ≠ [] := by intro h0; subst h0; simp at h
    have e := List.dropLast_concat_getLast hne
    generalize l.getLast hne = x at e
    generalize hm : l.dropLast = m at e
    have hml : m.length = k := by rw [← hm, List.length_dropLast, h]; rfl
    have hx := x.toNat_lt
    rw [← e, num_snoc, dig_snoc, show (num m * 256 + x.toNat) / 256 = num m by omega, show (num m * 256 + x.toNat) % 256 = x.toNat by omega, dig_num k m hml, UInt8.ofNat_toNat]
end Go.Proofs.Qxb6500769a
