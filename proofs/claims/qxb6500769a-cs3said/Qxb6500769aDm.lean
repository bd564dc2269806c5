/- modes: fit and split. -/
import Derived.Test.Qxb6500769aDl
namespace Go.Proofs.Qxb6500769a
open Go.RowKit Go.Qm
set_option linter.unusedVariables false
set_option linter.unusedSimpArgs false
attribute [local go_sem ↓] Go.wp_at_zero Go.wp_at_succ

/-- fit, where the initial vector has the block's length and dst and src have one length. -/
theorem fit_c (a : Int) (ka : Option Addr) (kn kc : Nat) (ia da sa : Option Addr) (b n ic dc sc : Nat) (w : World) (hb : bsz16 a = b) (hb0 : b ≠ 0) (hb1 : b ≤ 16) :
    Calls Try.prog 41 #[.agg #[.int .i64 a, .slice ka kn kc], .slice ia b ic, .slice da n dc, .slice sa n sc] w fun e w' => e = .returned (.tuple #[.int .i64 b, .int .i64 0]) ∧ Keep w w' := by
  have K0 := (Keep.refl w).alloc (.cells #[.int .i64 a, .slice ka kn kc] 36)
  have Q := fun W => cBlockSize_c a ka kn kc W
  rw [hb] at Q
  have y0 : ((b : Int) == 0) = false := by simp; omega
  have y1 : ((b : Int) != (b : Int)) = false := by simp
  have y2 : ((n : Int) != (n : Int)) = false := by simp
  clear hb hb0
  go_enter Try.func41, Try.ntmps41
  go_wp2_with fail
  refine (Q _).mono ?_
  rintro e w1 ⟨rfl, k1⟩
  go_wp2
  go_ret2
  exact ⟨rfl, K0.trans k1⟩
/-- The last piece's length. -/
def tailN (n b : Nat) : Nat := if n % b = 0 then b else n % b
theorem split_c (n b : Nat) (w : World) (hb0 : b ≠ 0) (hb1 : b ≤ 16) (hn : b < n) (hm : n ≤ 100000) :
    Calls Try.prog 43 #[.int .i64 n, .int .i64 b] w fun e w' => e = .returned (.tuple #[.int .i64 ((n - b - tailN n b : Nat) : Int), .int .i64 ((tailN n b : Nat) : Int)]) ∧ Keep w w' := by
  have ht : (n : Int).tmod b = ((n % b : Nat) : Int) := (Int.ofNat_tmod n b).symm
  have hlt : n % b < b := Nat.mod_lt _ (by omega)
  have hle : n % b ≤ n - b := by
    have := Nat.mod_add_div n b
    have h1 : 1 ≤ n / b := Nat.div_pos (by omega) (by omega)
    have h2 : b * 1 ≤ b * (n / b) := Nat.mul_le_mul_left b h1
    omega
  have hb0' : ¬ (b : Int) = 0 := by omega
  by_cases h0 : n % b = 0
  · have hge : b ≤ n - b := by
      have := Nat.mod_add_div n b
      have h1 : 2 ≤ n / b := by
        rcases Nat.lt_or_ge (n / b) 2 with h | h
        · have h3 : n / b ≤ 1 := by omega
          have h4 : b * (n / b) ≤ b * 1 := Nat.mul_le_mul_left b h3
          omega
        · exact h
      have h2 : b * 2 ≤ b * (n / b) := Nat.mul_le_mul_left b h1
      omega
    have ET : Hid (tailN n b = b) := Hid.mk (if_pos h0)
    rw [h0] at ht
    have hs : ((n - b - b : Nat) : Int) = (n : Int) - b - b := by omega
    have HS := Hid.mk hs
    clear hs hlt hle h0
    go_enter Try.func43, Try.ntmps43
    go_wp2
    go_ret2
    refine ⟨?_, Keep.refl _⟩
    rw [ET.out, HS.out]
    rfl
  · have ET : Hid (tailN n b = n % b) := Hid.mk (if_neg h0)
    have hs : ((n - b - n % b : Nat) : Int) = (n : Int) - b - ((n % b : Nat) : Int) := by omega
    have HS := Hid.mk hs
    clear hs
    have y0 : (((n % b : Nat) : Int) == 0) = false := by simp; omega
    have hr16 : n % b ≤ 16 := by omega
    generalize n % b = r at *
    clear h0
    go_enter Try.func43, Try.ntmps43
    go_wp2
    go_ret2
    refine ⟨?_, Keep.refl _⟩
    rw [ET.out, HS.out]
    rfl
end Go.Proofs.Qxb6500769a
