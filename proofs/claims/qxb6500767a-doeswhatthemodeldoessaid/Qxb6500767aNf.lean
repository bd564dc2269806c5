/- unionvfsm: flags and modes, by bits and by division (plain). -/
import Derived.Test.Qxb6500767aNb
namespace Go.Proofs.Qxb6500767a
open Go.RowKit Go.Qm
set_option linter.unusedVariables false
set_option linter.unusedSimpArgs false
theorem andn_zero (x : Int) (k : Nat) (hk : k ≤ 62) (h1 : -9223372036854775808 ≤ x) (h2 : x ≤ 9223372036854775807) : (bits .andNot .i64 x ((2 ^ k - 1 : Nat) : Int) == 0) = (decide (0 ≤ x) && decide (x < ((2 ^ k : Nat) : Int))) := by
  have hp : 2 ^ k ≤ 2 ^ 62 := Nat.pow_le_pow_right (by omega) hk
  have hp0 : 0 < 2 ^ k := Nat.two_pow_pos k
  obtain ⟨a, ha⟩ : ∃ a, a = BitVec.ofInt 64 x := ⟨_, rfl⟩
  have hn : (a.toNat : Int) = x % 18446744073709551616 := by
    rw [ha, BitVec.toNat_ofInt]
    rw [show ((2 ^ 64 : Nat) : Int) = 18446744073709551616 from rfl]
    omega
  have hb : (a &&& ~~~ BitVec.ofInt 64 ((2 ^ k - 1 : Nat) : Int)) = 0#64 ↔ a.toNat < 2 ^ k := by
    rw [BitVec.ofInt_natCast]
    constructor
    · intro h
      apply Nat.lt_pow_two_of_testBit
      intro i hi
      by_cases h64 : i < 64
      · have e := congrArg (fun b => BitVec.getLsbD b i) h
        simp only [BitVec.getLsbD_and, BitVec.getLsbD_not, BitVec.getLsbD_ofNat, Nat.testBit_two_pow_sub_one, BitVec.getLsbD_zero] at e
        rw [BitVec.testBit_toNat]
        simpa [h64, show ¬ i < k by omega] using e
      · exact Nat.testBit_lt_two_pow (Nat.lt_of_lt_of_le a.isLt (Nat.pow_le_pow_right (by omega) (by omega)))
    · intro h
      apply BitVec.eq_of_getLsbD_eq
      intro i hi
      simp only [BitVec.getLsbD_and, BitVec.getLsbD_not, BitVec.getLsbD_ofNat, Nat.testBit_two_pow_sub_one, BitVec.getLsbD_zero]
      by_cases hik : i < k
      · simp [hi, hik]
      · have : a.getLsbD i = false := by
          rw [← BitVec.testBit_toNat]
          exact Nat.testBit_lt_two_pow (Nat.lt_of_lt_of_le h (Nat.pow_le_pow_right (by omega) (by omega)))
        rw [this]
        simp
  have hw : bits .andNot .i64 x ((2 ^ k - 1 : Nat) : Int) = 0 ↔ (a &&& ~~~ BitVec.ofInt 64 ((2 ^ k - 1 : Nat) : Int)) = 0#64 := by
    have e : bits .andNot .i64 x ((2 ^ k - 1 : Nat) : Int) = IntKind.i64.wrap ((a &&& ~~~ BitVec.ofInt 64 ((2 ^ k - 1 : Nat) : Int)).toNat : Int) := by rw [ha]; rfl
    rw [e]
    generalize (a &&& ~~~ BitVec.ofInt 64 ((2 ^ k - 1 : Nat) : Int)) = c
    have hc := c.isLt
    constructor
    · intro h
      apply BitVec.eq_of_toNat_eq
      show c.toNat = 0
      generalize c.toNat = m at *
      simp [IntKind.wrap, IntKind.signed, IntKind.bits] at h
      split at h <;> omega
    · intro h
      rw [h]
      rfl
  have hx : a.toNat < 2 ^ k ↔ (0 ≤ x ∧ x < ((2 ^ k : Nat) : Int)) := by
    generalize (2 ^ k : Nat) = K at *
    generalize a.toNat = m at *
    omega
  by_cases h : 0 ≤ x ∧ x < ((2 ^ k : Nat) : Int)
  · rw [decide_eq_true h.1, decide_eq_true h.2, hw.2 (hb.2 (hx.2 h))]
    rfl
  · have h3 : bits .andNot .i64 x ((2 ^ k - 1 : Nat) : Int) ≠ 0 := fun e => h (hx.1 (hb.1 (hw.1 e)))
    rw [beq_eq_false_iff_ne.2 h3]
    by_cases h0 : 0 ≤ x
    · rw [decide_eq_true h0, decide_eq_false (fun a => h ⟨h0, a⟩)]; rfl
    · rw [decide_eq_false h0]; rfl
theorem vm_md {m : Int} (h1 : -9223372036854775808 ≤ m) (h2 : m ≤ 9223372036854775807) : vmB m = mdB m := by
  have := andn_zero m 9 (by omega) h1 h2
  unfold vmB mdB
  rw [show ((2 ^ 9 - 1 : Nat) : Int) = 511 from rfl, show ((2 ^ 9 : Nat) : Int) = 512 from rfl] at this
  rw [this]
  congr 1
  apply decide_eq_decide.2
  omega
theorem fl_ok {f : Int} (h1 : -9223372036854775808 ≤ f) (h2 : f ≤ 9223372036854775807) : (bits .andNot .i64 f 127 == 0) = (decide (0 ≤ f) && decide (f ≤ 127)) := by
  have := andn_zero f 7 (by omega) h1 h2
  rw [show ((2 ^ 7 - 1 : Nat) : Int) = 127 from rfl, show ((2 ^ 7 : Nat) : Int) = 128 from rfl] at this
  rw [this]
  congr 1
  apply decide_eq_decide.2
  omega
def flP (f : Int) : Bool := hsB f 1 == bt f 1 && hsB f 2 == bt f 2 && hsB f 4 == bt f 4 && hsB f 8 == bt f 8 && hsB f 16 == bt f 16 && hsB f 32 == bt f 32 && hsB f 64 == bt f 64 &&
  nob f 3 == (nob f 1 && nob f 2) && nob f 48 == (nob f 16 && nob f 32) && nob f 6 == (nob f 2 && nob f 4) &&
  bt (bits .and .i64 f 35) 1 == bt f 1 && bt (bits .and .i64 f 35) 2 == bt f 2 && bt (bits .and .i64 f 35) 32 == bt f 32 && decide (0 ≤ bits .and .i64 f 35) && decide (bits .and .i64 f 35 ≤ 127) &&
  (bits .and .i64 f 0 == 0) && (bits .and .i64 f 1 == 1) == bt f 1 && (bits .and .i64 f 2 == 2) == bt f 2
theorem flP_all : ((List.range 128).all fun n => flP (n : Int)) = true := by decide +kernel
theorem flP_of {f : Int} (h0 : 0 ≤ f) (h1 : f ≤ 127) : flP f = true := by
  have := List.all_eq_true.1 flP_all f.toNat (List.mem_range.2 (by omega))
  simpa [Int.toNat_of_nonneg h0] using this
def mdP (m : Int) : Bool := hsB m 256 == bt m 256 && hsB m 128 == bt m 128
theorem mdP_all : ((List.range 512).all fun n => mdP (n : Int)) = true := by decide +kernel
theorem mdP_of {f : Int} (h0 : 0 ≤ f) (h1 : f ≤ 511) : mdP f = true := by
  have := List.all_eq_true.1 mdP_all f.toNat (List.mem_range.2 (by omega))
  simpa [Int.toNat_of_nonneg h0] using this
structure FlR (f : Int) : Prop where
  h1 : hsB f 1 = bt f 1
  h2 : hsB f 2 = bt f 2
  h4 : hsB f 4 = bt f 4
  h8 : hsB f 8 = bt f 8
  h16 : hsB f 16 = bt f 16
  h32 : hsB f 32 = bt f 32
  h64 : hsB f 64 = bt f 64
  n3 : nob f 3 = (nob f 1 && nob f 2)
  n48 : nob f 48 = (nob f 16 && nob f 32)
  n6 : nob f 6 = (nob f 2 && nob f 4)
  b1 : bt (bits .and .i64 f 35) 1 = bt f 1
  b2 : bt (bits .and .i64 f 35) 2 = bt f 2
  b32 : bt (bits .and .i64 f 35) 32 = bt f 32
  r0 : 0 ≤ bits .and .i64 f 35
  r1 : bits .and .i64 f 35 ≤ 127
  g0 : (bits .and .i64 f 0 == 0) = true
  g1 : (bits .and .i64 f 1 == 1) = bt f 1
  g2 : (bits .and .i64 f 2 == 2) = bt f 2
theorem flR {f : Int} (h0 : 0 ≤ f) (h1 : f ≤ 127) : FlR f := by
  have := flP_of h0 h1
  unfold flP at this
  simp only [Bool.and_eq_true, beq_iff_eq, decide_eq_true_eq] at this
  obtain ⟨⟨⟨⟨⟨⟨⟨⟨⟨⟨⟨⟨⟨⟨⟨⟨⟨a1, a2⟩, a3⟩, a4⟩, a5⟩, a6⟩, a7⟩, a8⟩, a9⟩, a10⟩, a11⟩, a12⟩, a13⟩, a14⟩, a15⟩, a16⟩, a17⟩, a18⟩ := this
  exact ⟨a1, a2, a3, a4, a5, a6, a7, a8, a9, a10, a11, a12, a13, a14, a15, by simpa using a16, a17, a18⟩
theorem mdR {m : Int} (h0 : 0 ≤ m) (h1 : m ≤ 511) : hsB m 256 = bt m 256 ∧ hsB m 128 = bt m 128 := by
  have := mdP_of h0 h1
  unfold mdP at this
  simpa only [Bool.and_eq_true, beq_iff_eq] using this
end Go.Proofs.Qxb6500767a
