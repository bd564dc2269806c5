/- The leaves: Fits, Max, capped, the circuit's signed. -/
import Derived.Test.Qxb6500772aBa
namespace Go.Proofs.Qxb6500772a
open Go.RowKit Go.Qm
set_option linter.unusedVariables false
set_option linter.unusedSimpArgs false
attribute [local go_sem ↓] Go.wp_at_zero Go.wp_at_succ
theorem fits_c (v wd : Nat) (hv : v < 2 ^ 64) (hw : wd ≤ 64) : Pure1 55 #[.int .u64 (v : Nat), .int .i64 (wd : Nat)] (.bool (decide (v < 2 ^ wd))) := by
  intro w
  by_cases h : wd = 64
  · subst h
    have e : decide (v < 2 ^ 64) = true := by simpa using hv
    rw [e]
    have h3 : (64 : Int) ≤ ((64 : Nat) : Int) := by decide
    clear hv e
    go_enter Try.func55, Try.ntmps55
    go_wp2
    go_ret
    exact ⟨rfl, rfl⟩
  · have h1 : (wd : Int) < 64 := by omega
    have h2 : ¬ (64 : Int) ≤ wd := by omega
    have HE : Hid (((v : Int) / 2 ^ wd == 0) = decide (v < 2 ^ wd)) := Hid.mk (by
      have e : (v : Int) / 2 ^ wd = ((v / 2 ^ wd : Nat) : Int) := by push_cast; rfl
      rw [e]
      by_cases hc : v < 2 ^ wd
      · rw [Nat.div_eq_of_lt hc]; simp [hc]
      · have : 1 ≤ v / 2 ^ wd := (Nat.one_le_div_iff (Nat.two_pow_pos wd)).2 (by omega)
        rw [decide_eq_false hc]
        simp only [beq_eq_false_iff_ne, ne_eq]
        omega)
    generalize decide (v < 2 ^ wd) = r at *
    clear hv
    go_enter Try.func55, Try.ntmps55
    go_wp2
    all_goals go_ret
    all_goals exact ⟨by first | (rw [← HE.out]; rfl) | (apply ret_bool; rw [← HE.out]; simp [*]), rfl⟩
theorem max_c (wd : Nat) (hw : wd ≤ 64) : Pure1 41 #[.int .i64 (wd : Nat)] (.int .u64 (((2 ^ wd - 1) / 2 : Nat) : Int)) := by
  intro w
  have LC := low_c 18446744073709551615 wd (by decide) hw w
  have e1 : 18446744073709551615 % 2 ^ wd = 2 ^ wd - 1 := by
    have h := Nat.pow_dvd_pow 2 hw
    obtain ⟨k, hk⟩ := h
    have h0 := Nat.two_pow_pos wd
    have hk0 : 0 < k := by
      rcases Nat.eq_zero_or_pos k with e | e
      · subst e; simp at hk
      · exact e
    have e : 18446744073709551615 = (2 ^ wd - 1) + 2 ^ wd * (k - 1) := by
      have : 2 ^ wd * k = 2 ^ wd + 2 ^ wd * (k - 1) := by
        have e0 : k = (k - 1) + 1 := by omega
        rw [e0, Nat.mul_succ, Nat.add_sub_cancel]; omega
      omega
    rw [e, Nat.add_mul_mod_self_left, Nat.mod_eq_of_lt (by omega)]
  rw [e1] at LC
  have HE : Hid (((2 ^ wd - 1 : Nat) : Int) / 2 = (((2 ^ wd - 1) / 2 : Nat) : Int)) := Hid.mk (by omega)
  generalize (((2 ^ wd - 1) / 2 : Nat) : Int) = r at *
  generalize ((2 ^ wd - 1 : Nat) : Int) = p at *
  clear e1
  go_enter Try.func41, Try.ntmps41
  go_wp2_with fail
  refine LC.mono ?_
  rintro e y ⟨rfl, hy⟩
  subst hy
  go_wp2_with fail
  go_ret
  exact ⟨by rw [← HE.out]; rfl, rfl⟩
theorem capped_c (n : Nat) (hn : n ≤ 1000000000000) : Pure1 87 #[.int .i64 (n : Nat)] (.int .i64 ((min n 4097 : Nat) : Int)) := by
  intro w
  by_cases h : n ≤ 4096
  · have h1 : (n : Int) ≤ 4096 := by omega
    have e : min n 4097 = n := by omega
    rw [e]
    clear hn e h
    go_enter Try.func87, Try.ntmps87
    go_wp2
    go_ret
    exact ⟨rfl, rfl⟩
  · have h1 : (4096 : Int) < n := by omega
    have e : min n 4097 = 4097 := by omega
    rw [e]
    clear hn e h
    go_enter Try.func87, Try.ntmps87
    go_wp2
    go_ret
    exact ⟨rfl, rfl⟩
theorem tb_top {v wd : Nat} (hv : v < 2 ^ wd) (h1 : 1 ≤ wd) : v.testBit (wd - 1) = decide (2 ^ (wd - 1) ≤ v) := by
  have e : 2 ^ wd = 2 * 2 ^ (wd - 1) := by rw [← Nat.pow_succ']; congr 1; omega
  rw [Nat.testBit_eq_decide_div_mod_eq]
  by_cases h : 2 ^ (wd - 1) ≤ v
  · have : v / 2 ^ (wd - 1) = 1 := by rw [Nat.div_eq_iff (Nat.two_pow_pos _)]; omega
    rw [this]; simp [h]
  · rw [Nat.div_eq_of_lt (by omega)]; simp; omega
theorem ormask {v wd : Nat} (hv : v < 2 ^ wd) (hw : wd < 64) : bits .or .u64 (v : Int) (bits .xor .u64 IntKind.u64.max (IntKind.u64.wrap (IntKind.u64.wrap (2 ^ wd) - 1))) = (v : Int) + 18446744073709551616 - 2 ^ wd := by
  have h1 := two_le (show wd ≤ 63 by omega)
  have h2 := two_pos wd
  have h3 := Nat.two_pow_pos wd
  have h4 : ((2 ^ wd : Nat) : Int) = 2 ^ wd := by push_cast; rfl
  have h5 : 2 ^ wd ≤ 2 ^ 63 := Nat.pow_le_pow_right (by decide) (show wd ≤ 63 by omega)
  have e1 : IntKind.u64.wrap ((2 : Int) ^ wd) = 2 ^ wd := by rw [IntKind.wrap_u64]; omega
  have e2 : IntKind.u64.wrap ((2 : Int) ^ wd - 1) = ((2 ^ wd - 1 : Nat) : Int) := by rw [IntKind.wrap_u64]; omega
  have e3 : IntKind.u64.max = ((2 ^ 64 - 1 : Nat) : Int) := by decide
  have e4 : (2 ^ 64 - 1) ^^^ (2 ^ wd - 1) = (2 ^ (64 - wd) - 1) * 2 ^ wd := by
    apply Nat.eq_of_testBit_eq
    intro i
    rw [Nat.testBit_xor, Nat.testBit_two_pow_sub_one, Nat.testBit_two_pow_sub_one, Nat.testBit_mul_two_pow, Nat.testBit_two_pow_sub_one]
    by_cases a : i < wd
    · simp [a, show i < 64 by omega, show ¬ wd ≤ i by omega]
    · by_cases b : i < 64
      · simp [a, b, show wd ≤ i by omega]; omega
      · simp [a, b, show wd ≤ i by omega]; omega
  have e5 : (2 ^ (64 - wd) - 1) * 2 ^ wd = 2 ^ 64 - 2 ^ wd := by
    rw [Nat.sub_mul, ← Nat.pow_add, show 64 - wd + wd = 64 by omega]; omega
  rw [e1, e2, e3, bits_xor_u64 _ _ (by omega) (by omega), e4, bits_or_u64 _ _ (by omega) (by rw [e5]; omega), Nat.or_comm, or_add _ _ _ hv, e5]
  omega
theorem csigned_c (v wd : Nat) (hv : v < 2 ^ wd) (h1 : 1 ≤ wd) (hw : wd ≤ 64) : Pure1 82 #[.int .u64 (v : Nat), .int .i64 (wd : Nat)] (.int .i64 (sgn v wd)) := by
  intro w
  have hv64 : v < 2 ^ 64 := Nat.lt_of_lt_of_le hv (Nat.pow_le_pow_right (by decide) hw)
  have LC := clow_c v wd hv64 hw w
  rw [Nat.mod_eq_of_lt hv] at LC
  have hb := bits_bit v (wd - 1) hv64
  have hpn : ((2 ^ wd : Nat) : Int) = 2 ^ wd := by push_cast; rfl
  have hq : 2 ^ wd = 2 * 2 ^ (wd - 1) := by rw [← Nat.pow_succ']; congr 1; omega
  have ht := tb_top hv h1
  by_cases h : wd = 64
  · subst h
    have HE : Hid (wrap64 (v : Int) = sgn v 64) := Hid.mk (by
      unfold sgn wrap64
      rw [ht]
      by_cases hc : 2 ^ (64 - 1) ≤ v
      · simp only [hc, decide_true, if_true]; omega
      · simp only [hc, decide_false, if_false, Bool.false_eq_true]; omega)
    have h3 : ¬ (((64 : Nat) : Int) < 64) := by decide
    generalize sgn v 64 = r at *
    clear hb hv hpn hq ht hv64
    go_enter Try.func82, Try.ntmps82
    go_wp2_with fail
    refine LC.mono ?_
    rintro e y ⟨rfl, hy⟩
    subst hy
    clear LC
    go_wp2_with fail
    go_ret
    exact ⟨by rw [← HE.out]; rfl, rfl⟩
  · have h2 : (wd : Int) < 64 := by omega
    have h3 : (1 : Int) ≤ wd := by omega
    have p1 := two_le (show wd ≤ 63 by omega)
    have p2 := two_pos wd
    have OM := ormask hv (show wd < 64 by omega)
    by_cases hc : 2 ^ (wd - 1) ≤ v
    · have HE : Hid (wrap64 (bits .or .u64 (v : Int) (bits .xor .u64 IntKind.u64.max (IntKind.u64.wrap (IntKind.u64.wrap (2 ^ wd) - 1)))) = sgn v wd) := Hid.mk (by
        rw [OM]
        unfold sgn
        rw [ht]
        simp only [hc, decide_true, if_true]
        unfold wrap64
        omega)
      rw [ht, decide_eq_true hc] at hb
      simp only [Bool.toNat_true] at hb
      generalize sgn v wd = r at *
      clear hv hpn hq ht p1 p2 hc OM hv64
      go_enter Try.func82, Try.ntmps82
      go_wp2_with fail
      refine LC.mono ?_
      rintro e y ⟨rfl, hy⟩
      subst hy
      clear LC
      go_wp2_with fail
      go_ret
      exact ⟨by rw [← HE.out]; rfl, rfl⟩
    · have HE : Hid (wrap64 (v : Int) = sgn v wd) := Hid.mk (by
        unfold sgn
        rw [ht]
        simp only [hc, decide_false, if_false, Bool.false_eq_true]
        exact w64 _ (by omega))
      rw [ht, decide_eq_false hc] at hb
      simp only [Bool.toNat_false] at hb
      generalize sgn v wd = r at *
      clear hv hpn hq ht p1 p2 hc OM hv64
      go_enter Try.func82, Try.ntmps82
      go_wp2_with fail
      refine LC.mono ?_
      rintro e y ⟨rfl, hy⟩
      subst hy
      clear LC
      go_wp2_with fail
      go_ret
      exact ⟨by rw [← HE.out]; rfl, rfl⟩
end Go.Proofs.Qxb6500772a
