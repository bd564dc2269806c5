/- digestm: the small functions under the hashes. -/
import Derived.Test.Qxb6500769aOct
namespace Go.Proofs.Qxb6500769a
open Go.RowKit Go.Qm
set_option linter.unusedVariables false
set_option linter.unusedSimpArgs false

def rl (x : Int) (n : Nat) : Int := bits .or .u32 (x * 2 ^ n % 4294967296) (x / 2 ^ (32 - n))
def rr (x : Int) (n : Nat) : Int := bits .or .u32 (x / 2 ^ n) (x * 2 ^ (32 - n) % 4294967296)
def rr64 (x : Int) (n : Nat) : Int := bits .or .u64 (x / 2 ^ n) (x * 2 ^ (64 - n) % 18446744073709551616)
theorem rotl_c (x : Int) (n : Nat) (w : World) (hn : n ≤ 32) : Calls Try.prog 104 #[.int .u32 x, .int .u64 n] w fun e w' => e = .returned (.int .u32 (rl x n)) ∧ w' = w := by
  have h1 : IntKind.u64.wrap (32 - (n : Int)) = ((32 - n : Nat) : Int) := by simp [IntKind.wrap, IntKind.signed, IntKind.bits]; omega
  have h2 : ¬ (n : Int) < 0 := by omega
  have h3 : ¬ ((32 - n : Nat) : Int) < 0 := by omega
  go_enter Try.func104, Try.ntmps104
  go_wp2
  go_ret
  exact ⟨rfl, rfl⟩
theorem rotr_c (x : Int) (n : Nat) (w : World) (hn : n ≤ 32) : Calls Try.prog 109 #[.int .u32 x, .int .u64 n] w fun e w' => e = .returned (.int .u32 (rr x n)) ∧ w' = w := by
  have h1 : IntKind.u64.wrap (32 - (n : Int)) = ((32 - n : Nat) : Int) := by simp [IntKind.wrap, IntKind.signed, IntKind.bits]; omega
  have h2 : ¬ (n : Int) < 0 := by omega
  have h3 : ¬ ((32 - n : Nat) : Int) < 0 := by omega
  go_enter Try.func109, Try.ntmps109
  go_wp2
  go_ret
  exact ⟨rfl, rfl⟩
theorem rotr64_c (x : Int) (n : Nat) (w : World) (hn : n ≤ 64) : Calls Try.prog 111 #[.int .u64 x, .int .u64 n] w fun e w' => e = .returned (.int .u64 (rr64 x n)) ∧ w' = w := by
  have h1 : IntKind.u64.wrap (64 - (n : Int)) = ((64 - n : Nat) : Int) := by simp [IntKind.wrap, IntKind.signed, IntKind.bits]; omega
  have h2 : ¬ (n : Int) < 0 := by omega
  have h3 : ¬ ((64 - n : Nat) : Int) < 0 := by omega
  go_enter Try.func111, Try.ntmps111
  go_wp2
  go_ret
  exact ⟨rfl, rfl⟩

def pk (i a b c d : Nat) : Nat := if i % 4 = 0 then a else if i % 4 = 1 then b else if i % 4 = 2 then c else d
theorem pk_le {i a b c d m : Nat} (ha : a ≤ m) (hb : b ≤ m) (hc : c ≤ m) (hd : d ≤ m) : pk i a b c d ≤ m := by
  unfold pk; split <;> (try split) <;> (try split) <;> assumption
theorem pick_c (i a b c d : Nat) (w : World) (hi : i < 64) : Calls Try.prog 105 #[.int .i64 i, .int .u64 a, .int .u64 b, .int .u64 c, .int .u64 d] w fun e w' => e = .returned (.int .u64 (pk i a b c d : Nat)) ∧ w' = w := by
  have h0 : (i : Int).tmod 4 = ((i % 4 : Nat) : Int) := (Int.ofNat_tmod i 4).symm
  have hr : i % 4 < 4 := Nat.mod_lt _ (by omega)
  unfold pk
  generalize i % 4 = r at *
  go_enter Try.func105, Try.ntmps105
  match r, hr with
  | 0, _ => go_wp2; go_ret; exact ⟨rfl, rfl⟩
  | 1, _ => go_wp2; go_ret; exact ⟨rfl, rfl⟩
  | 2, _ => go_wp2; go_ret; exact ⟨rfl, rfl⟩
  | 3, _ => go_wp2; go_ret; exact ⟨rfl, rfl⟩

/-- The four digits of a word. -/
def n64 (x : Int) : Nat := (x % 18446744073709551616).toNat
theorem n64_eq (x : Int) : IntKind.u64.wrap x = (n64 x : Int) := by
  have : IntKind.u64.wrap x = x % 18446744073709551616 := by simp [IntKind.wrap, IntKind.signed, IntKind.bits]
  rw [this]; unfold n64; omega
theorem n64_lt (x : Int) : n64 x < 2 ^ 64 := by unfold n64; omega
def le4 (x : Int) : List UInt8 := (dig (n64 x) 4).reverse
theorem le4_length (x : Int) : (le4 x).length = 4 := by simp [le4, dig_length]
theorem digits64_c (x : Int) (n : Nat) (w : World) (hn : n ≤ 1000) : Calls Try.prog 53 #[.int .u64 (n64 x : Int), .int .i64 n] w fun e w' => ∃ v', e = .returned v' ∧ Own w.heap.size 5 w' v' ((dig (n64 x) n).map cb) ∧ Keep w w' := digits_c (n64 x) n w (n64_lt x) hn
theorem digits4_c (x : Int) (w : World) : Calls Try.prog 53 #[.int .u64 (n64 x : Int), .int .i64 4] w fun e w' => ∃ v', e = .returned v' ∧ Own w.heap.size 5 w' v' ((dig (n64 x) 4).map cb) ∧ Keep w w' := digits64_c x 4 w (by omega)
def spell (a b c d : Int) : List UInt8 := le4 a ++ le4 b ++ le4 c ++ le4 d
theorem spell_length (a b c d : Int) : (spell a b c d).length = 16 := by simp [spell, le4_length]
set_option maxHeartbeats 1000000 in
theorem spellLE_c (a b c d : Int) (w : World) : Calls Try.prog 106 #[.int .u32 a, .int .u32 b, .int .u32 c, .int .u32 d] w fun e w' => ∃ v', e = .returned v' ∧ Own w.heap.size 5 w' v' ((spell a b c d).map cb) ∧ Keep w w' := by
  have ha := n64_eq a
  have hb := n64_eq b
  have hc := n64_eq c
  have hd := n64_eq d
  go_enter Try.func106, Try.ntmps106
  go_wp2_with fail
  refine (digits4_c a _).mono ?_
  rintro e w1 ⟨v1, rfl, o1, k1⟩
  go_wp2_with fail
  refine (flip_c _ _ _ o1.bs (by rw [dig_length]; omega)).mono ?_
  rintro e w2 ⟨v2, rfl, o2, k2⟩
  go_wp2_with fail
  refine (digits4_c b _).mono ?_
  rintro e w3 ⟨v3, rfl, o3, k3⟩
  go_wp2_with fail
  refine (flip_c _ _ _ o3.bs (by rw [dig_length]; omega)).mono ?_
  rintro e w4 ⟨v4, rfl, o4, k4⟩
  go_wp2_with fail
  refine (join_c _ _ (le4 a) (le4 b) _ (o2.bs.keep (k3.trans k4)) o4.bs (by simp [le4_length])).mono ?_
  rintro e w5 ⟨v5, rfl, o5, k5⟩
  go_wp2_with fail
  refine (digits4_c c _).mono ?_
  rintro e w6 ⟨v6, rfl, o6, k6⟩
  go_wp2_with fail
  refine (flip_c _ _ _ o6.bs (by rw [dig_length]; omega)).mono ?_
  rintro e w7 ⟨v7, rfl, o7, k7⟩
  go_wp2_with fail
  refine (join_c _ _ (le4 a ++ le4 b) (le4 c) _ (o5.bs.keep (k6.trans k7)) o7.bs (by simp [le4_length])).mono ?_
  rintro e w8 ⟨v8, rfl, o8, k8⟩
  go_wp2_with fail
  refine (digits4_c d _).mono ?_
  rintro e w9 ⟨v9, rfl, o9, k9⟩
  go_wp2_with fail
  refine (flip_c _ _ _ o9.bs (by rw [dig_length]; omega)).mono ?_
  rintro e w10 ⟨v10, rfl, o10, k10⟩
  go_wp2_with fail
  refine (join_c _ _ (le4 a ++ le4 b ++ le4 c) (le4 d) _ (o8.bs.keep (k9.trans k10)) o10.bs (by simp [le4_length])).mono ?_
  rintro e w11 ⟨v11, rfl, o11, k11⟩
  go_wp2
  go_ret
  have kk := k1.trans (k2.trans (k3.trans (k4.trans (k5.trans (k6.trans (k7.trans (k8.trans (k9.trans k10))))))))
  exact ⟨_, rfl, o11.mono kk.size, kk.trans k11⟩
end Go.Proofs.Qxb6500769a
