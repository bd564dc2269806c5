/- token.gcd, reduce; tokenm.RightOnce, Right (no negative count). -/
import Derived.Test.Qxb6500771aBase
import Derived.Deep.RegionWith
namespace Go.Proofs.Qxb6500771a
open Go.RowKit Go.Qm
set_option linter.unusedVariables false
set_option linter.unusedSimpArgs false
attribute [local go_sem ↓] Go.wp_at_zero Go.wp_at_succ

set_option maxHeartbeats 400000 in
theorem gcd_c (a b : Nat) (w : World) (ha : a ≤ 1000000000) (hb : b ≤ 1000000000) : Calls Try.prog 51 #[.int .i64 a, .int .i64 b] w fun e w' => e = .returned (.int .i64 (Nat.gcd a b : Nat)) ∧ Keep w w' := by
  go_enter Try.func51, Try.ntmps51
  go_wp2
  go_loopw [0, 1] (fun x y wr => ∃ m n : Nat, x = .int .i64 m ∧ y = .int .i64 n ∧ m ≤ 1000000000 ∧ n ≤ 1000000000 ∧ Nat.gcd m n = Nat.gcd a b ∧ Keep w wr) (fun _ y _ => (intOf y).toNat)
  case atStart => exact ⟨a, b, rfl, rfl, ha, hb, rfl, Keep.refl _⟩
  case round =>
    obtain ⟨m, n, rfl, rfl, hm, hn, hg, kw⟩ := hrel
    have HG := Hid.mk hg
    clear hg
    by_cases h0 : n = 0
    · subst h0
      go_wp2
      go_ret
      exact ⟨ret_int (by rw [← HG.out, Nat.gcd_zero_right]), kw⟩
    · have h1 : ((n : Int) != 0) = true := by simp; omega
      have h2 : ¬ (n : Int) = 0 := by omega
      go_wp2
      go_region
      go_wp2
      go_roundw
      case rel => exact ⟨n, m % n, rfl, by go_num, hn, by have := Nat.mod_lt m (show 0 < n by omega); omega, by rw [← HG.out, Nat.gcd_comm m n, Nat.gcd_rec n m, Nat.gcd_comm], kw.drew⟩
      case measure =>
        have := Nat.mod_lt m (show 0 < n by omega)
        simp [intOf]; omega

theorem tmod_facts (c n : Int) (hn : 0 < n) : -n < c.tmod n ∧ c.tmod n < n ∧ (c.tmod n < 0 → c.tmod n + n = c % n) ∧ (0 ≤ c.tmod n → c.tmod n = c % n) := by
  have h1 := Int.emod_nonneg c (show n ≠ 0 by omega)
  have h2 := Int.emod_lt_of_pos c hn
  have h3 := Int.tmod_eq_emod (a := c) (b := n)
  have h4 : (n.natAbs : Int) = n := by omega
  by_cases h : 0 ≤ c ∨ n ∣ c
  · rw [if_pos h] at h3
    simp at h3
    rw [h3]
    exact ⟨by omega, by omega, by omega, fun _ => rfl⟩
  · rw [if_neg h, h4] at h3
    have h0 : c % n ≠ 0 := fun e => h (Or.inr (Int.dvd_of_emod_eq_zero e))
    rw [h3]
    exact ⟨by omega, by omega, by omega, by omega⟩

set_option maxHeartbeats 400000 in
theorem reduce_c (c n : Int) (w : World) (hn : 0 < n) (hn1 : n ≤ 1000000000) (hc : -9223372036854775808 ≤ c) (hc1 : c ≤ 9223372036854775807) :
    Calls Try.prog 43 #[.int .i64 c, .int .i64 n] w fun e w' => e = .returned (.int .i64 (c % n)) ∧ w' = w := by
  have hn0 : ¬ n = 0 := by omega
  obtain ⟨h1, h2, h3, h4⟩ := tmod_facts c n hn
  have H3 := Hid.mk h3
  have H4 := Hid.mk h4
  clear h3 h4
  by_cases h : c.tmod n < 0
  · go_enter Try.func43, Try.ntmps43
    go_wp2
    go_ret
    exact ⟨ret_int (H3.out h), rfl⟩
  · go_enter Try.func43, Try.ntmps43
    go_wp2
    go_ret
    exact ⟨ret_int (H4.out (by omega)), rfl⟩

/-- One place to the right. -/
def ro1 (l : List UInt8) : List UInt8 := l.drop (l.length - 1) ++ l.take (l.length - 1)

set_option maxHeartbeats 400000 in
theorem rightOnce_c (v : Value) (l : List UInt8) (w : World) (h : Bs w v l) (hl : l.length ≤ 1000000) :
    Calls Try.prog 44 #[v] w fun e w' => ∃ v', e = .returned v' ∧ Own w.heap.size 5 w' v' ((ro1 l).map cb) ∧ Keep w w' := by
  have hb := h
  obtain ⟨a, c, rfl, hac, hcm, hca⟩ := h.form
  unfold maxLen at hcm
  by_cases hz : l.length = 0
  · have hz' : ((l.length : Int) == 0) = true := beq_iff_eq.2 (by omega)
    have hl0 : l = [] := List.eq_nil_of_length_eq_zero hz
    subst hl0
    go_enter Try.func44, Try.ntmps44
    go_wp2
    go_ret
    exact ⟨_, rfl, Own.lit [] (Nat.le_refl _) (by simp), (Keep.refl _).alloc _⟩
  · have hz' : ((l.length : Int) == 0) = false := beq_eq_false_iff_ne.2 (by omega)
    have h1 : (0 : Int) ≤ (l.length : Int) - 1 := by omega
    have h2 : (l.length : Int) - 1 ≤ l.length := by omega
    have h3 : (l.length : Int) - 1 ≤ c := by omega
    obtain ⟨b, o, rfl, _⟩ := hca 0 (by omega)
    clear hca
    have h4 : ¬ c = l.length - 1 := by omega
    have h5 : l.length - 1 ≤ l.length := by omega
    have h6 : 1 ≤ l.length := by omega
    have h7 : IntKind.i64.wrap ((l.length : Int) - 1) = (l.length : Int) - 1 := by rw [IntKind.wrap_i64]; omega
    go_enter Try.func44, Try.ntmps44
    go_wp2
    have p1 : Bs w.drew (.slice (some ⟨b, o + (l.length - 1), none⟩) (l.length - (l.length - 1)) (c - (l.length - 1))) (l.drop (l.length - 1)) := by
      have := Bs.part hb.drew (i := l.length - 1) (j := l.length) (by omega) (Nat.le_refl _) (some ⟨b, o + (l.length - 1), none⟩) (fun _ => by simp [Addr.add])
      rwa [List.take_of_length_le (by simp)] at this
    have p2 : Bs w.drew (.slice (some ⟨b, o, none⟩) (l.length - 1) c) (l.take (l.length - 1)) := by
      have := Bs.part hb.drew (i := 0) (j := l.length - 1) (by omega) (by omega) (some ⟨b, o, none⟩) (fun _ => by simp [Addr.add])
      simpa using this
    go_region_with (go_at_call 14; refine (join_c _ _ _ _ _ p1 p2 (by simp; omega)).mono ?_; rintro e w1 ⟨r, rfl, ow, k1⟩)
    all_goals
      go_wp2
      go_ret
      exact ⟨_, rfl, ow.mono (Nat.le_refl _), (Keep.refl w).drew.trans k1⟩
end Go.Proofs.Qxb6500771a
