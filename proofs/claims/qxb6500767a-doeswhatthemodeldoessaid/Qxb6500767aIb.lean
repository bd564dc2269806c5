/- unionvfs: OpenCount. -/
import Derived.Test.Qxb6500767aFq
namespace Go.Proofs.Qxb6500767a
open Go.RowKit Go.Qm
set_option linter.unusedVariables false
set_option linter.unusedSimpArgs false
attribute [local go_sem ↓] Go.wp_at_zero Go.wp_at_succ
/-- The bits that are set. -/
def pc (b : Nat) : Nat := if h : b = 0 then 0 else b % 2 + pc (b / 2)
termination_by b
decreasing_by omega
theorem pc_zero : pc 0 = 0 := by rw [pc]; rfl
theorem pc_pos {b : Nat} (h : b ≠ 0) : pc b = b % 2 + pc (b / 2) := by rw [pc, dif_neg h]
theorem pc_twice (m : Nat) : pc (2 * m) = pc m := by
  by_cases h : m = 0
  · subst h; rfl
  · rw [pc_pos (b := 2 * m) (by omega), show 2 * m % 2 = 0 by omega, show 2 * m / 2 = m by omega, Nat.zero_add]
theorem pc_odd (m : Nat) : pc (2 * m + 1) = pc m + 1 := by
  rw [pc_pos (by omega), show (2 * m + 1) % 2 = 1 by omega, show (2 * m + 1) / 2 = m by omega]; omega
theorem land_eo (a c : Nat) : 2 * a &&& (2 * c + 1) = 2 * (a &&& c) := by
  apply Nat.eq_of_testBit_eq
  intro i
  cases i with
  | zero => simp [Nat.testBit_zero]
  | succ i => rw [Nat.testBit_and, Nat.testBit_succ, Nat.testBit_succ, Nat.testBit_succ, show 2 * a / 2 = a by omega, show (2 * c + 1) / 2 = c by omega, show 2 * (a &&& c) / 2 = a &&& c by omega, Nat.testBit_and]
theorem land_oe (a : Nat) : (2 * a + 1) &&& 2 * a = 2 * a := by
  apply Nat.eq_of_testBit_eq
  intro i
  cases i with
  | zero => simp [Nat.testBit_zero]
  | succ i => rw [Nat.testBit_and, Nat.testBit_succ, Nat.testBit_succ, show 2 * a / 2 = a by omega, show (2 * a + 1) / 2 = a by omega, Bool.and_self]
theorem pc_drop : ∀ b : Nat, b ≠ 0 → pc (b &&& (b - 1)) + 1 = pc b := by
  intro b
  induction b using Nat.strongRecOn with
  | ind b ih =>
    intro hb
    obtain ⟨m, hm⟩ : ∃ m, b = 2 * m ∨ b = 2 * m + 1 := ⟨b / 2, by omega⟩
    rcases hm with e | e
    · have hm0 : m ≠ 0 := by omega
      rw [e, show 2 * m - 1 = 2 * (m - 1) + 1 by omega, land_eo, pc_twice, pc_twice]
      exact ih m (by omega) hm0
    · rw [e, show 2 * m + 1 - 1 = 2 * m by omega, land_oe, pc_twice, pc_odd]
theorem pc_le : ∀ (k b : Nat), b < 2 ^ k → pc b ≤ k
  | 0, b, h => by have : b = 0 := by simpa using h
                  subst this; rw [pc_zero]; omega
  | k + 1, b, h => by
    by_cases e : b = 0
    · subst e; rw [pc_zero]; omega
    · rw [pc_pos e]
      have := pc_le k (b / 2) (by rw [Nat.pow_succ] at h; omega)
      omega
theorem bit_low (b : Nat) (hb : b < 2 ^ 32) (h0 : b ≠ 0) : bits .and .u32 (b : Int) (IntKind.u32.wrap ((b : Int) - 1)) = ((b &&& (b - 1) : Nat) : Int) ∧ IntKind.u32.wrap ((b : Int) - 1) = ((b - 1 : Nat) : Int) := by
  have e0 : IntKind.u32.wrap ((b : Int) - 1) = ((b - 1 : Nat) : Int) := by
    have hb' : b < 4294967296 := hb
    simp [IntKind.wrap, IntKind.signed, IntKind.bits]
    omega
  refine ⟨?_, e0⟩
  rw [e0]
  have e : (BitVec.ofInt 32 (b : Int) &&& BitVec.ofInt 32 ((b - 1 : Nat) : Int)).toNat = b &&& (b - 1) := by
    rw [BitVec.ofInt_natCast, BitVec.ofInt_natCast, BitVec.toNat_and, BitVec.toNat_ofNat, BitVec.toNat_ofNat, Nat.mod_eq_of_lt hb, Nat.mod_eq_of_lt (by omega)]
  show IntKind.u32.wrap ((BitVec.ofInt 32 (b : Int) &&& BitVec.ofInt 32 ((b - 1 : Nat) : Int)).toNat : Int) = _
  rw [e]
  have : b &&& (b - 1) ≤ b := Nat.and_le_left
  have hb' : b < 4294967296 := hb
  generalize b &&& (b - 1) = x at *
  simp [IntKind.wrap, IntKind.signed, IntKind.bits]
  omega
set_option maxRecDepth 3000 in
set_option maxHeartbeats 4000000 in
theorem openCount_c (gf gt u : Nat) (hs : List Hd) (w : World) (hf : FSW w gf gt u hs) :
    Calls Try.prog 26 #[.pointer (some ⟨gf, 0, none⟩)] w fun e w' => e = .returned (.int .i64 (pc u : Nat)) ∧ w' = w := by
  have c1 := hf.head.2
  have hu := hf.lt
  have hpu := pc_le 32 u hu
  clear hf
  go_enter Try.func26, Try.ntmps26
  go_wp2_with fail
  go_loopg [3, 4] (pc u) (fun gk nv bv wr => ∃ n b : Nat, b < 2 ^ 32 ∧ pc b = gk ∧ n + pc b = pc u ∧ nv = .int .i64 n ∧ bv = .int .u32 b ∧ wr = w)
  case atStart => exact ⟨0, u, hu, rfl, by omega, rfl, rfl, rfl⟩
  case round =>
    obtain ⟨n, b, hb, hg, hn, rfl, rfl, rfl⟩ := hrel
    by_cases h0 : b = 0
    · subst h0
      rw [pc_zero] at hn
      have HN := Hid.mk hn
      clear hn hg
      go_wp2_with fail
      go_ret
      refine ⟨?_, rfl⟩
      have := HN.out
      rw [← this]; rfl
    · have z : ((b : Int) != 0) = true := by simp; omega
      obtain ⟨e1, e2⟩ := bit_low b hb h0
      have hd := pc_drop b h0
      have hlt : b &&& (b - 1) < 2 ^ 32 := Nat.lt_of_le_of_lt Nat.and_le_left hb
      rw [e2] at e1
      have e3 : IntKind.i64.wrap ((n : Int) + 1) = (n : Int) + 1 := by rw [IntKind.wrap_i64] <;> omega
      generalize b &&& (b - 1) = b1 at *
      generalize b - 1 = b2 at *
      have HN := Hid.mk hn
      have HG := Hid.mk hg
      have HD := Hid.mk hd
      clear hn hg hd h0
      go_wp2_with fail
      go_roundg (pc b1)
      case measure => have := HG.out; have := HD.out; omega
      case rel => exact ⟨n + 1, b1, hlt, rfl, by have := HN.out; have := HD.out; omega, by go_num, rfl, rfl⟩
end Go.Proofs.Qxb6500767a
