/- circuitm: apply. -/
import Derived.Test.Qxb6500772aBb
namespace Go.Proofs.Qxb6500772a
open Go.RowKit Go.Qm
set_option linter.unusedVariables false
set_option linter.unusedSimpArgs false
attribute [local go_sem ↓] Go.wp_at_zero Go.wp_at_succ
theorem p64 {wd : Nat} (hw : wd ≤ 64) : ∃ k : Int, (18446744073709551616 : Int) = 2 ^ wd * k := by
  obtain ⟨k, hk⟩ := Nat.pow_dvd_pow 2 hw
  refine ⟨k, ?_⟩
  have h : (18446744073709551616 : Nat) = 2 ^ wd * k := hk
  calc (18446744073709551616 : Int) = ((18446744073709551616 : Nat) : Int) := rfl
    _ = ((2 ^ wd * k : Nat) : Int) := by rw [← h]
    _ = 2 ^ wd * (k : Int) := by rw [Int.natCast_mul, Int.natCast_pow]; rfl
theorem lowmod (z : Int) {wd : Nat} (hw : wd ≤ 64) : (z % 18446744073709551616).toNat % 2 ^ wd = (z % 2 ^ wd).toNat := by
  obtain ⟨k, hk⟩ := p64 hw
  have h0 : 0 ≤ z % 18446744073709551616 := Int.emod_nonneg _ (by decide)
  have h1 : 0 ≤ z % 2 ^ wd := Int.emod_nonneg _ (by have := two_pos wd; omega)
  apply Int.ofNat.inj
  show (((z % 18446744073709551616).toNat % 2 ^ wd : Nat) : Int) = (((z % 2 ^ wd).toNat : Nat) : Int)
  rw [Int.natCast_emod, Int.toNat_of_nonneg h0, Int.toNat_of_nonneg h1]
  push_cast
  rw [Int.emod_emod_of_dvd _ ⟨k, hk⟩]
theorem clow_i (z : Int) {wd : Nat} (hw : wd ≤ 64) : Pure1 81 #[.int .u64 (IntKind.u64.wrap z), .int .i64 (wd : Nat)] (.int .u64 (((z % 2 ^ wd).toNat : Nat) : Int)) := by
  have h0 : 0 ≤ z % 18446744073709551616 := Int.emod_nonneg _ (by decide)
  have h1 : z % 18446744073709551616 < 18446744073709551616 := Int.emod_lt_of_pos _ (by decide)
  have e : IntKind.u64.wrap z = (((z % 18446744073709551616).toNat : Nat) : Int) := by rw [IntKind.wrap_u64]; omega
  have := clow_c (z % 18446744073709551616).toNat wd (by omega) hw
  rw [lowmod z hw] at this
  rw [e]
  exact this
theorem low_i (z : Int) {wd : Nat} (hw : wd ≤ 64) : Pure1 39 #[.int .u64 (IntKind.u64.wrap z), .int .i64 (wd : Nat)] (.int .u64 (((z % 2 ^ wd).toNat : Nat) : Int)) := by
  have h0 : 0 ≤ z % 18446744073709551616 := Int.emod_nonneg _ (by decide)
  have h1 : z % 18446744073709551616 < 18446744073709551616 := Int.emod_lt_of_pos _ (by decide)
  have e : IntKind.u64.wrap z = (((z % 18446744073709551616).toNat : Nat) : Int) := by rw [IntKind.wrap_u64]; omega
  have := low_c (z % 18446744073709551616).toNat wd (by omega) hw
  rw [lowmod z hw] at this
  rw [e]
  exact this
theorem mod_w64 (z : Int) {wd : Nat} (hw : wd ≤ 64) : wrap64 z % 2 ^ wd = z % 2 ^ wd := by
  obtain ⟨k, hk⟩ := p64 hw
  obtain ⟨j, hj⟩ := w64_k z
  rw [hj, hk, Int.mul_assoc, Int.add_mul_emod_self_left]
theorem sgn_zero {y wd : Nat} (hy : y < 2 ^ wd) (h1 : 1 ≤ wd) (h : sgn y wd = 0) : y = 0 := by
  unfold sgn at h
  have hpn : ((2 ^ wd : Nat) : Int) = 2 ^ wd := by push_cast; rfl
  split at h <;> omega
theorem wop0 (x y wd : Nat) : (((x : Int) + y) % 2 ^ wd).toNat = wop 0 x y wd := by
  have e : ((x : Int) + y) % 2 ^ wd = (((x + y) % 2 ^ wd : Nat) : Int) := by push_cast; rfl
  rw [e]; exact Int.toNat_natCast _
theorem wop1 {x y wd : Nat} (hy : y < 2 ^ wd) : (((x : Int) - y) % 2 ^ wd).toNat = wop 1 x y wd := by
  have hpn : ((2 ^ wd : Nat) : Int) = 2 ^ wd := by push_cast; rfl
  have e : ((x : Int) - y) % 2 ^ wd = (((x + (2 ^ wd - y)) % 2 ^ wd : Nat) : Int) := by
    rw [Int.natCast_emod, hpn]
    have e2 : ((x + (2 ^ wd - y) : Nat) : Int) = (x : Int) - y + 2 ^ wd := by omega
    rw [e2, Int.add_emod_right]
  rw [e]; exact Int.toNat_natCast _
theorem wop2 (x y wd : Nat) : (((x : Int) * y) % 2 ^ wd).toNat = wop 2 x y wd := by
  have e : ((x : Int) * y) % 2 ^ wd = (((x * y) % 2 ^ wd : Nat) : Int) := by push_cast; rfl
  rw [e]; exact Int.toNat_natCast _
section
variable {x y wd : Nat}
theorem capply_c (op : Nat) (hop : op ≤ 6) (hx : x < 2 ^ wd) (hy : y < 2 ^ wd) (h1 : 1 ≤ wd) (hw : wd ≤ 64) : Pure1 34 #[.int .i64 (op : Nat), .int .u64 (x : Nat), .int .u64 (y : Nat), .int .i64 (wd : Nat)] (.int .u64 ((wop op x y wd : Nat) : Int)) := by
  intro w
  have SX := csigned_c x wd hx h1 hw
  have SY := csigned_c y wd hy h1 hw
  have e0 := wop0 x y wd
  have e1 := wop1 (x := x) hy
  have e2 := wop2 x y wd
  have ez := sgn_zero hy h1
  have C0 := clow_i ((x : Int) + y) hw
  have C1 := clow_i ((x : Int) - y) hw
  have C2 := clow_i ((x : Int) * y) hw
  have C3 := clow_i (wrap64 ((sgn x wd).tdiv (sgn y wd))) hw
  have C4 := clow_i ((sgn x wd).tmod (sgn y wd)) hw
  rw [mod_w64 _ hw] at C3
  have H3 : Hid (wop 3 x y wd = if y = 0 then 0 else ((sgn x wd).tdiv (sgn y wd) % 2 ^ wd).toNat) := Hid.mk rfl
  have H4 : Hid (wop 4 x y wd = if y = 0 then x else ((sgn x wd).tmod (sgn y wd) % 2 ^ wd).toNat) := Hid.mk rfl
  have H5 : Hid (wop 5 x y wd = if x = y then 1 else 0) := Hid.mk rfl
  have H6 : Hid (wop 6 x y wd = if sgn x wd < sgn y wd then 1 else 0) := Hid.mk rfl
  rw [e0] at C0
  rw [e1] at C1
  rw [e2] at C2
  have EZ := Hid.mk ez
  generalize sgn x wd = a at *
  generalize sgn y wd = b at *
  clear e0 e1 e2 ez hx hy
  have HA := Hid.mk hw
  match op, hop with
  | 0, _ =>
    clear C1 C2 C3 C4 SX SY
    generalize wop 0 x y wd = r at *
    go_enter Try.func34, Try.ntmps34
    go_wp2_with fail
    refine (C0 w).mono ?_
    rintro e y ⟨rfl, hy⟩
    subst hy
    go_wp2_with fail
    go_ret
    exact ⟨rfl, rfl⟩
  | 1, _ =>
    clear C0 C2 C3 C4 SX SY
    generalize wop 1 x y wd = r at *
    go_enter Try.func34, Try.ntmps34
    go_wp2_with fail
    refine (C1 w).mono ?_
    rintro e y ⟨rfl, hy⟩
    subst hy
    go_wp2_with fail
    go_ret
    exact ⟨rfl, rfl⟩
  | 2, _ =>
    clear C0 C1 C3 C4 SX SY
    generalize wop 2 x y wd = r at *
    go_enter Try.func34, Try.ntmps34
    go_wp2_with fail
    refine (C2 w).mono ?_
    rintro e y ⟨rfl, hy⟩
    subst hy
    go_wp2_with fail
    go_ret
    exact ⟨rfl, rfl⟩
  | 3, _ =>
    rw [H3.out]
    clear C0 C1 C2 C4 H3 H4 H5 H6
    by_cases h0 : y = 0
    · subst h0
      rw [if_pos rfl]
      go_enter Try.func34, Try.ntmps34
      go_wp2_with fail
      go_ret
      exact ⟨rfl, rfl⟩
    · rw [if_neg h0]
      have hb0 : b ≠ 0 := fun e => h0 (EZ.out e)
      have hy0 : ((y : Int) == 0) = false := by simp; omega
      generalize (Int.tdiv a b % 2 ^ wd).toNat = r at *
      clear h0 EZ
      go_enter Try.func34, Try.ntmps34
      go_wp2_with fail
      refine (SX w).mono ?_
      rintro e y1 ⟨rfl, hy1⟩
      subst hy1
      go_wp2_with fail
      refine (SY _).mono ?_
      rintro e y1 ⟨rfl, hy1⟩
      subst hy1
      go_wp2_with fail
      refine (C3 _).mono ?_
      rintro e y1 ⟨rfl, hy1⟩
      subst hy1
      go_wp2_with fail
      go_ret
      exact ⟨rfl, rfl⟩
  | 4, _ =>
    rw [H4.out]
    clear C0 C1 C2 C3 H3 H4 H5 H6
    by_cases h0 : y = 0
    · subst h0
      rw [if_pos rfl]
      go_enter Try.func34, Try.ntmps34
      go_wp2_with fail
      go_ret
      exact ⟨rfl, rfl⟩
    · rw [if_neg h0]
      have hb0 : b ≠ 0 := fun e => h0 (EZ.out e)
      have hy0 : ((y : Int) == 0) = false := by simp; omega
      generalize (Int.tmod a b % 2 ^ wd).toNat = r at *
      clear h0 EZ
      go_enter Try.func34, Try.ntmps34
      go_wp2_with fail
      refine (SX w).mono ?_
      rintro e y1 ⟨rfl, hy1⟩
      subst hy1
      go_wp2_with fail
      refine (SY _).mono ?_
      rintro e y1 ⟨rfl, hy1⟩
      subst hy1
      go_wp2_with fail
      refine (C4 _).mono ?_
      rintro e y1 ⟨rfl, hy1⟩
      subst hy1
      go_wp2_with fail
      go_ret
      exact ⟨rfl, rfl⟩
  | 5, _ =>
    rw [H5.out]
    clear C0 C1 C2 C3 C4 H3 H4 H5 H6 SX SY EZ
    by_cases h0 : x = y
    · subst h0
      rw [if_pos rfl]
      go_enter Try.func34, Try.ntmps34
      go_wp2_with fail
      go_ret
      exact ⟨rfl, rfl⟩
    · rw [if_neg h0]
      have hy0 : ((x : Int) == (y : Int)) = false := by simp; omega
      clear h0
      go_enter Try.func34, Try.ntmps34
      go_wp2_with fail
      go_ret
      exact ⟨rfl, rfl⟩
  | 6, _ =>
    rw [H6.out]
    clear C0 C1 C2 C3 C4 H3 H4 H5 H6 EZ
    by_cases h0 : a < b
    · rw [if_pos h0]
      go_enter Try.func34, Try.ntmps34
      go_wp2_with fail
      refine (SX w).mono ?_
      rintro e y1 ⟨rfl, hy1⟩
      subst hy1
      go_wp2_with fail
      refine (SY _).mono ?_
      rintro e y1 ⟨rfl, hy1⟩
      subst hy1
      go_wp2_with fail
      go_ret
      exact ⟨rfl, rfl⟩
    · rw [if_neg h0]
      go_enter Try.func34, Try.ntmps34
      go_wp2_with fail
      refine (SX w).mono ?_
      rintro e y1 ⟨rfl, hy1⟩
      subst hy1
      go_wp2_with fail
      refine (SY _).mono ?_
      rintro e y1 ⟨rfl, hy1⟩
      subst hy1
      go_wp2_with fail
      go_ret
      exact ⟨rfl, rfl⟩
end
end Go.Proofs.Qxb6500772a
