/- The leaves: Fits, FitsSigned, Low, Signed, Max, truth, capped. -/
import Derived.Test.Qxb6500772aCh
namespace Go.Proofs.Qxb6500772a
open Go.RowKit Go.Qm
set_option linter.unusedVariables false
set_option linter.unusedSimpArgs false
attribute [local go_sem ↓] Go.wp_at_zero Go.wp_at_succ
/-- A pure call: it answers r and leaves the world. -/
def Pure1 (f : FuncId) (args : Array Value) (r : Value) : Prop := ∀ w, Calls Try.prog f args w fun e w' => e = .returned r ∧ w' = w
theorem two_le {a b : Nat} (h : a ≤ b) : (2 : Int) ^ a ≤ 2 ^ b := by exact_mod_cast Nat.pow_le_pow_right (by decide) h
theorem two_pos (a : Nat) : (0 : Int) < 2 ^ a := by exact_mod_cast Nat.two_pow_pos a
theorem w64 (n : Int) (h : -9223372036854775808 ≤ n ∧ n ≤ 9223372036854775807) : wrap64 n = n := by unfold wrap64; omega
theorem w64_k (n : Int) : ∃ k : Int, wrap64 n = n + 18446744073709551616 * k := ⟨-((n + 9223372036854775808) / 18446744073709551616), by unfold wrap64; omega⟩
theorem w64_sub (a b : Int) (h : -9223372036854775808 ≤ a - b ∧ a - b ≤ 9223372036854775807) : wrap64 (wrap64 a - wrap64 b) = a - b := by
  obtain ⟨k, hk⟩ := w64_k a
  obtain ⟨j, hj⟩ := w64_k b
  rw [hk, hj]
  unfold wrap64
  omega
theorem truth_c (b : Bool) : Pure1 40 #[.bool b] (.int .u64 (b.toNat : Nat)) := by
  intro w
  cases b <;> go_enter Try.func40, Try.ntmps40 <;> go_wp2 <;> go_ret <;> exact ⟨rfl, rfl⟩
theorem andmask (v wd : Nat) (hv : v < 2 ^ 64) (hw : wd < 64) : bits .and .u64 (v : Int) (IntKind.u64.wrap (IntKind.u64.wrap (2 ^ wd) - 1)) = ((v % 2 ^ wd : Nat) : Int) := by
  have h1 := two_le (show wd ≤ 63 by omega)
  have h2 := two_pos wd
  have e1 : IntKind.u64.wrap ((2 : Int) ^ wd) = 2 ^ wd := by rw [IntKind.wrap_u64]; omega
  have e2 : IntKind.u64.wrap ((2 : Int) ^ wd - 1) = ((2 ^ wd - 1 : Nat) : Int) := by
    have h3 := Nat.two_pow_pos wd
    have h4 : ((2 ^ wd : Nat) : Int) = 2 ^ wd := by push_cast; rfl
    rw [IntKind.wrap_u64]; omega
  have h5 : 2 ^ wd ≤ 2 ^ 63 := Nat.pow_le_pow_right (by decide) (show wd ≤ 63 by omega)
  rw [e1, e2, bits_and_u64 _ _ hv (by omega), and_mask]
theorem low_c (v wd : Nat) (hv : v < 2 ^ 64) (hw : wd ≤ 64) : Pure1 39 #[.int .u64 (v : Nat), .int .i64 (wd : Nat)] (.int .u64 ((v % 2 ^ wd : Nat) : Int)) := by
  intro w
  by_cases h : wd = 64
  · subst h
    rw [Nat.mod_eq_of_lt hv]
    have h3 : (64 : Int) ≤ ((64 : Nat) : Int) := by decide
    clear hv
    go_enter Try.func39, Try.ntmps39
    go_wp2
    go_ret
    exact ⟨rfl, rfl⟩
  · have h1 : (wd : Int) < 64 := by omega
    have h2 : ¬ (64 : Int) ≤ wd := by omega
    have e := andmask v wd hv (by omega)
    have HE := Hid.mk e
    generalize ((v % 2 ^ wd : Nat) : Int) = r at *
    clear hv e
    go_enter Try.func39, Try.ntmps39
    go_wp2
    go_ret
    exact ⟨by rw [← HE.out]; rfl, rfl⟩
theorem clow_c (v wd : Nat) (hv : v < 2 ^ 64) (hw : wd ≤ 64) : Pure1 81 #[.int .u64 (v : Nat), .int .i64 (wd : Nat)] (.int .u64 ((v % 2 ^ wd : Nat) : Int)) := by
  intro w
  by_cases h : wd = 64
  · subst h
    rw [Nat.mod_eq_of_lt hv]
    have h3 : (64 : Int) ≤ ((64 : Nat) : Int) := by decide
    clear hv
    go_enter Try.func81, Try.ntmps81
    go_wp2
    go_ret
    exact ⟨rfl, rfl⟩
  · have h1 : (wd : Int) < 64 := by omega
    have h2 : ¬ (64 : Int) ≤ wd := by omega
    have e := andmask v wd hv (by omega)
    have HE := Hid.mk e
    generalize ((v % 2 ^ wd : Nat) : Int) = r at *
    clear hv e
    go_enter Try.func81, Try.ntmps81
    go_wp2
    go_ret
    exact ⟨by rw [← HE.out]; rfl, rfl⟩
def fitS (n : Int) (wd : Nat) : Bool := decide (-(2 ^ (wd - 1)) ≤ n ∧ n < 2 ^ (wd - 1))
theorem fitsS_c (n : Int) (wd : Nat) (h1 : 1 ≤ wd) (hw : wd ≤ 64) (hn0 : -9223372036854775808 ≤ n) (hn1 : n ≤ 9223372036854775807) : Pure1 56 #[.int .i64 n, .int .i64 (wd : Nat)] (.bool (fitS n wd)) := by
  intro w
  by_cases h : wd = 64
  · subst h
    have e : fitS n 64 = true := by simp [fitS]; omega
    rw [e]
    have h3 : (64 : Int) ≤ ((64 : Nat) : Int) := by decide
    clear e hn0 hn1
    go_enter Try.func56, Try.ntmps56
    go_wp2
    go_ret
    exact ⟨rfl, rfl⟩
  · have h1 : (wd : Int) < 64 := by omega
    have h2 : ¬ (64 : Int) ≤ wd := by omega
    have h3 : (1 : Int) ≤ wd := by omega
    have p1 := two_le (show wd - 1 ≤ 62 by omega)
    have p2 := two_pos (wd - 1)
    have e1 : wrap64 ((2 : Int) ^ (wd - 1)) = 2 ^ (wd - 1) := w64 _ (by omega)
    have e2 : wrap64 (-(2 : Int) ^ (wd - 1)) = -2 ^ (wd - 1) := w64 _ (by omega)
    have HF : Hid (fitS n wd = decide (-(2 ^ (wd - 1)) ≤ n ∧ n < 2 ^ (wd - 1))) := Hid.mk rfl
    clear p1 p2
    generalize fitS n wd = r at *
    have E1 := Hid.mk e1
    have E2 := Hid.mk e2
    clear e1 e2
    go_enter Try.func56, Try.ntmps56
    go_wp2
    all_goals
      rename_i hd
      rw [E1.out, E2.out] at hd
      go_ret
      refine ⟨?_, rfl⟩
      rw [HF.out]
      apply ret_bool
      first | (simp only [E1.out]; simp [hd]; done) | (show false = _; symm; rw [decide_eq_false_iff_not]; omega)
theorem signed_c (v wd : Nat) (hv : v < 2 ^ wd) (h1 : 1 ≤ wd) (hw : wd ≤ 64) : Pure1 37 #[.int .u64 (v : Nat), .int .i64 (wd : Nat)] (.int .i64 (sgn v wd)) := by
  intro w
  have hb := bits_bit v (wd - 1) (Nat.lt_of_lt_of_le hv (Nat.pow_le_pow_right (by decide) hw))
  have hb2 : v.testBit (wd - 1) = true ↔ 2 ^ (wd - 1) ≤ v := by
    constructor
    · intro h; exact Nat.ge_two_pow_of_testBit h
    · intro h; rw [Nat.testBit_eq_decide_div_mod_eq]
      have e : 2 ^ wd = 2 * 2 ^ (wd - 1) := by rw [← Nat.pow_succ']; congr 1; omega
      have : v / 2 ^ (wd - 1) = 1 := by rw [Nat.div_eq_iff (Nat.two_pow_pos _)]; omega
      rw [this]; rfl
  have hpn : ((2 ^ wd : Nat) : Int) = 2 ^ wd := by push_cast; rfl
  have hqn : ((2 ^ (wd - 1) : Nat) : Int) = 2 ^ (wd - 1) := by push_cast; rfl
  have hpp : (2 : Int) ^ wd = 2 * 2 ^ (wd - 1) := by
    have e : 2 ^ wd = 2 * 2 ^ (wd - 1) := by rw [← Nat.pow_succ']; congr 1; omega
    omega
  by_cases h : wd = 64
  · subst h
    have h3 : ¬ (((64 : Nat) : Int) < 64) := by decide
    have HE : Hid (wrap64 (v : Int) = sgn v 64) := Hid.mk (by
      unfold sgn wrap64
      by_cases hc : v.testBit 63 = true
      · have := hb2.1 hc; simp only [hc, if_true]; omega
      · have : ¬ 2 ^ 63 ≤ v := fun x => hc (hb2.2 x)
        simp only [hc, if_false, Bool.false_eq_true]; omega)
    generalize sgn v 64 = r at *
    clear hb hb2 hv hpn hqn hpp
    go_enter Try.func37, Try.ntmps37
    go_wp2
    go_ret
    exact ⟨by rw [← HE.out]; rfl, rfl⟩
  · have h2 : (wd : Int) < 64 := by omega
    have h3 : (1 : Int) ≤ wd := by omega
    have p1 := two_le (show wd ≤ 63 by omega)
    have p2 := two_pos wd
    by_cases hc : v.testBit (wd - 1) = true
    · have h4 := hb2.1 hc
      have HE : Hid (wrap64 (wrap64 (v : Int) - wrap64 (2 ^ wd)) = sgn v wd) := Hid.mk (by
        unfold sgn
        simp only [hc, if_true]
        exact w64_sub _ _ (by omega))
      rw [hc] at hb
      simp only [Bool.toNat_true] at hb
      generalize sgn v wd = r at *
      clear hb2 hv hpn hqn hpp p1 p2 hc h4
      go_enter Try.func37, Try.ntmps37
      go_wp2
      go_ret
      exact ⟨by rw [← HE.out]; rfl, rfl⟩
    · have h4 : ¬ 2 ^ (wd - 1) ≤ v := fun x => hc (hb2.2 x)
      have HE : Hid (wrap64 (v : Int) = sgn v wd) := Hid.mk (by
        unfold sgn
        simp only [hc, if_false, Bool.false_eq_true]
        exact w64 _ (by omega))
      have hc' : v.testBit (wd - 1) = false := by simpa using hc
      rw [hc'] at hb
      simp only [Bool.toNat_false] at hb
      generalize sgn v wd = r at *
      clear hb2 hv hpn hqn hpp p1 p2 hc h4 hc'
      go_enter Try.func37, Try.ntmps37
      go_wp2
      go_ret
      exact ⟨by rw [← HE.out]; rfl, rfl⟩
end Go.Proofs.Qxb6500772a
