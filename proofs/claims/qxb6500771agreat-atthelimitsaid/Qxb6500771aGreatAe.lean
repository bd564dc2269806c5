/- cipherm: the small functions of AES. -/
import Derived.Test.Qxb6500771aGreatSm
namespace Go.Proofs.Qxb6500771aGreat
open Go.RowKit Go.Qm
set_option linter.unusedVariables false
set_option linter.unusedSimpArgs false

/-- times: the three registers after k rounds. -/
def ta (a : UInt8) : Nat → UInt8
  | 0 => a
  | k + 1 => if 128 ≤ (ta a k).toNat then (ta a k * 2) ^^^ 27 else ta a k * 2
def tb (b : UInt8) : Nat → UInt8
  | 0 => b
  | k + 1 => tb b k / 2
def tp (a b : UInt8) : Nat → UInt8
  | 0 => 0
  | k + 1 => if (tb b k).toNat % 2 = 1 then tp a b k ^^^ ta a k else tp a b k
def tmul (a b : UInt8) : UInt8 := tp a b 8
theorem u8_lt (x : UInt8) : x.toNat < 256 := x.toNat_lt
theorem wrap8 (x : Int) : IntKind.u8.wrap x = x % 256 := by simp [IntKind.wrap, IntKind.signed, IntKind.bits]
theorem u8_mul2 (x : UInt8) : IntKind.u8.wrap ((x.toNat : Int) * 2) = ((x * 2).toNat : Int) := by
  rw [wrap8, UInt8.toNat_mul]
  show _ = ((x.toNat * 2 % 256 : Nat) : Int)
  omega
theorem u8_div2 (x : UInt8) : IntKind.u8.wrap ((x.toNat : Int).tdiv 2) = ((x / 2).toNat : Int) := by
  have := u8_lt x
  rw [wrap8, UInt8.toNat_div]
  show (((x.toNat : Int)).tdiv ((2 : Nat) : Int)) % 256 = ((x.toNat / 2 : Nat) : Int)
  rw [← Int.ofNat_tdiv]
  omega
theorem u8_rem2 (x : UInt8) : (x.toNat : Int).tmod 2 = ((x.toNat % 2 : Nat) : Int) := (Int.ofNat_tmod x.toNat 2).symm
set_option maxHeartbeats 1000000 in
theorem times_c (a b : UInt8) (w : World) : Calls Tryz.prog 129 #[.int .u8 a.toNat, .int .u8 b.toNat] w fun e w' => e = .returned (.int .u8 (tmul a b).toNat) ∧ w' = w := by
  go_enter Tryz.func129, Tryz.ntmps129
  go_wp2_with fail
  go_loopw [0, 1, 5, 6] (fun av bv pv iv wr => ∃ k : Nat, k ≤ 8 ∧ iv = .int .i64 k ∧ av = .int .u8 (ta a k).toNat ∧ bv = .int .u8 (tb b k).toNat ∧ pv = .int .u8 (tp a b k).toNat ∧ wr = w) (fun _ _ _ i _ => 8 - (intOf i).toNat)
  case atStart => exact ⟨0, by omega, rfl, rfl, rfl, rfl, rfl⟩
  case round =>
    obtain ⟨k, hk, rfl, rfl, rfl, rfl, rfl⟩ := hrel
    by_cases hlt : k < 8
    · have hlt' : (k : Int) < 8 := by omega
      have ea : ta a (k + 1) = if 128 ≤ (ta a k).toNat then (ta a k * 2) ^^^ 27 else ta a k * 2 := rfl
      have eb : tb b (k + 1) = tb b k / 2 := rfl
      have ep : tp a b (k + 1) = if (tb b k).toNat % 2 = 1 then tp a b k ^^^ ta a k else tp a b k := rfl
      have ha2 := u8_lt (ta a k)
      generalize ta a k = x at *
      generalize tb b k = y at *
      generalize tp a b k = p at *
      have m1 := u8_mul2 x
      have q1 := u8_div2 y
      have r1 := u8_rem2 y
      have x1 := bits_xor8 p x
      have x2 : bits .xor .u8 ((x * 2).toNat : Int) 27 = ((x * 2 ^^^ 27).toNat : Int) := bits_xor8 (x * 2) 27
      have q2 : (y.toNat : Int) / 2 = ((y / 2).toNat : Int) := by rw [UInt8.toNat_div]; rfl
      have m2 : (x.toNat : Int) * 2 % 256 = ((x * 2).toNat : Int) := by rw [← u8_mul2, wrap8]
      generalize x * 2 ^^^ 27 = x27 at *
      generalize x * 2 = xx at *
      generalize y / 2 = yy at *
      generalize p ^^^ x = px at *
      have q3 : (yy.toNat : Int) % 256 = yy.toNat := by have := u8_lt yy; omega
      by_cases hy : y.toNat % 2 = 1
      · rw [hy] at r1
        rw [if_pos hy] at ep
        have EP := Hid.mk ep
        clear ep hy
        by_cases hx : 128 ≤ x.toNat
        · rw [if_pos hx] at ea
          have EA := Hid.mk ea
          have EB := Hid.mk eb
          have hx' : (128 : Int) ≤ x.toNat := by omega
          clear ea eb
          go_wp2_with fail
          go_roundw
          case rel => exact ⟨k + 1, by omega, by go_num, by rw [EA.out], by rw [EB.out], by rw [EP.out], by first | rfl | trivial⟩
          case measure => simp [intOf]; omega
        · rw [if_neg hx] at ea
          have EA := Hid.mk ea
          have EB := Hid.mk eb
          have hx' : ¬ (128 : Int) ≤ x.toNat := by omega
          clear ea eb
          go_wp2_with fail
          go_roundw
          case rel => exact ⟨k + 1, by omega, by go_num, by rw [EA.out], by rw [EB.out], by rw [EP.out], by first | rfl | trivial⟩
          case measure => simp [intOf]; omega
      · have hy0 : y.toNat % 2 = 0 := by omega
        rw [hy0] at r1
        rw [if_neg hy] at ep
        have EP := Hid.mk ep
        clear ep hy hy0
        by_cases hx : 128 ≤ x.toNat
        · rw [if_pos hx] at ea
          have EA := Hid.mk ea
          have EB := Hid.mk eb
          have hx' : (128 : Int) ≤ x.toNat := by omega
          clear ea eb
          go_wp2_with fail
          go_roundw
          case rel => exact ⟨k + 1, by omega, by go_num, by rw [EA.out], by rw [EB.out], by rw [EP.out], by first | rfl | trivial⟩
          case measure => simp [intOf]; omega
        · rw [if_neg hx] at ea
          have EA := Hid.mk ea
          have EB := Hid.mk eb
          have hx' : ¬ (128 : Int) ≤ x.toNat := by omega
          clear ea eb
          go_wp2_with fail
          go_roundw
          case rel => exact ⟨k + 1, by omega, by go_num, by rw [EA.out], by rw [EB.out], by rw [EP.out], by first | rfl | trivial⟩
          case measure => simp [intOf]; omega
    · have hlt' : ¬ (k : Int) < 8 := by omega
      have : k = 8 := by omega
      subst this
      go_wp2
      go_ret
      exact ⟨rfl, rfl⟩
/-- inverse. -/
def iv7 (a : UInt8) : Nat → UInt8
  | 0 => 1
  | k + 1 => tmul (tmul (iv7 a k) (iv7 a k)) a
def inv8 (a : UInt8) : UInt8 := tmul (iv7 a 7) (iv7 a 7)
set_option maxHeartbeats 1000000 in
theorem inverse_c (a : UInt8) (w : World) : Calls Tryz.prog 131 #[.int .u8 a.toNat] w fun e w' => e = .returned (.int .u8 (inv8 a).toNat) ∧ w' = w := by
  go_enter Tryz.func131, Tryz.ntmps131
  go_wp2_with fail
  go_loopw [3, 4] (fun rv iv wr => ∃ k : Nat, k ≤ 7 ∧ iv = .int .i64 k ∧ rv = .int .u8 (iv7 a k).toNat ∧ wr = w) (fun _ i _ => 7 - (intOf i).toNat)
  case atStart => exact ⟨0, by omega, rfl, rfl, rfl⟩
  case round =>
    obtain ⟨k, hk, rfl, rfl, rfl⟩ := hrel
    by_cases hlt : k < 7
    · have hlt' : (k : Int) < 7 := by omega
      have EA := Hid.mk (show iv7 a (k + 1) = tmul (tmul (iv7 a k) (iv7 a k)) a from rfl)
      generalize iv7 a k = x at *
      go_wp2_with fail
      refine (times_c x x _).mono ?_
      rintro e w1 ⟨rfl, rfl⟩
      go_wp2_with fail
      refine (times_c (tmul x x) a _).mono ?_
      rintro e w1 ⟨rfl, rfl⟩
      go_wp2_with fail
      go_roundw
      case rel => exact ⟨k + 1, by omega, by go_num, by rw [EA.out], by first | rfl | trivial⟩
      case measure => simp [intOf]; omega
    · have hlt' : ¬ (k : Int) < 7 := by omega
      have : k = 7 := by omega
      subst this
      go_wp2_with fail
      refine (times_c (iv7 a 7) (iv7 a 7) _).mono ?_
      rintro e w1 ⟨rfl, rfl⟩
      go_wp2
      go_ret
      exact ⟨rfl, rfl⟩
/-- bit. -/
def bt (b : UInt8) (i : Nat) : UInt8 := UInt8.ofNat (b.toNat / 2 ^ (i % 8) % 2)
theorem bit_c (b : UInt8) (i : Nat) (w : World) (hi : i < 1000) : Calls Tryz.prog 130 #[.int .u8 b.toNat, .int .i64 i] w fun e w' => e = .returned (.int .u8 (bt b i).toNat) ∧ w' = w := by
  have h0 : (i : Int).tmod 8 = ((i % 8 : Nat) : Int) := (Int.ofNat_tmod i 8).symm
  have hr : i % 8 < 8 := Nat.mod_lt _ (by omega)
  have e : (bt b i).toNat = b.toNat / 2 ^ (i % 8) % 2 := by
    have : b.toNat / 2 ^ (i % 8) % 2 < 2 := Nat.mod_lt _ (by omega)
    unfold bt
    rw [UInt8.toNat_ofNat', Nat.mod_eq_of_lt (by omega)]
  have E := Hid.mk e
  clear e
  generalize bt b i = bb at *
  generalize i % 8 = r at *
  go_enter Tryz.func130, Tryz.ntmps130
  match r, hr with
  | 0, _ => go_wp2; go_ret; refine ⟨?_, rfl⟩; have E2 := E.out; simp at E2 ⊢; omega
  | 1, _ => go_wp2; go_ret; refine ⟨?_, rfl⟩; have E2 := E.out; simp at E2 ⊢; omega
  | 2, _ => go_wp2; go_ret; refine ⟨?_, rfl⟩; have E2 := E.out; simp at E2 ⊢; omega
  | 3, _ => go_wp2; go_ret; refine ⟨?_, rfl⟩; have E2 := E.out; simp at E2 ⊢; omega
  | 4, _ => go_wp2; go_ret; refine ⟨?_, rfl⟩; have E2 := E.out; simp at E2 ⊢; omega
  | 5, _ => go_wp2; go_ret; refine ⟨?_, rfl⟩; have E2 := E.out; simp at E2 ⊢; omega
  | 6, _ => go_wp2; go_ret; refine ⟨?_, rfl⟩; have E2 := E.out; simp at E2 ⊢; omega
  | 7, _ => go_wp2; go_ret; refine ⟨?_, rfl⟩; have E2 := E.out; simp at E2 ⊢; omega
/-- subByte. -/
def sv (b : UInt8) (i : Nat) : UInt8 := bt b i ^^^ bt b (i + 4) ^^^ bt b (i + 5) ^^^ bt b (i + 6) ^^^ bt b (i + 7) ^^^ bt 99 i
def so (b : UInt8) : Nat → UInt8
  | 0 => 0
  | k + 1 => UInt8.ofNat ((so b k).toNat + (sv b k).toNat * 2 ^ k % 256)
def sub8 (x : UInt8) : UInt8 := so (inv8 x) 8
set_option maxHeartbeats 4000000 in
theorem subByte_c (x : UInt8) (w : World) : Calls Tryz.prog 126 #[.int .u8 x.toNat] w fun e w' => e = .returned (.int .u8 (sub8 x).toNat) ∧ w' = w := by
  have IV := fun W => inverse_c x W
  unfold sub8
  generalize inv8 x = b at *
  go_enter Tryz.func126, Tryz.ntmps126
  go_wp2_with fail
  refine (IV _).mono ?_
  rintro e w1 ⟨rfl, rfl⟩
  go_wp2_with fail
  go_loopw [4, 5, 6] (fun ov iv vv wr => ∃ k : Nat, k ≤ 8 ∧ iv = .int .i64 k ∧ ov = .int .u8 (so b k).toNat ∧ wr = w1) (fun _ i _ _ => 8 - (intOf i).toNat)
  case atStart => exact ⟨0, by omega, rfl, rfl, rfl⟩
  case round =>
    obtain ⟨k, hk, rfl, rfl, rfl⟩ := hrel
    by_cases hlt : k < 8
    · have hlt' : (k : Int) < 8 := by omega
      have k0 : ¬ (k : Int) < 0 := by omega
      have es : so b (k + 1) = UInt8.ofNat ((so b k).toNat + (sv b k).toNat * 2 ^ k % 256) := rfl
      have ev : sv b k = bt b k ^^^ bt b (k + 4) ^^^ bt b (k + 5) ^^^ bt b (k + 6) ^^^ bt b (k + 7) ^^^ bt 99 k := rfl
      have B0 := fun W => bit_c b k W (by omega)
      have B4 : ∀ W, Calls Tryz.prog 130 #[.int .u8 b.toNat, .int .i64 ((k : Int) + 4)] W fun e w' => e = .returned (.int .u8 (bt b (k + 4)).toNat) ∧ w' = W := fun W => bit_c b (k + 4) W (by omega)
      have B5 : ∀ W, Calls Tryz.prog 130 #[.int .u8 b.toNat, .int .i64 ((k : Int) + 5)] W fun e w' => e = .returned (.int .u8 (bt b (k + 5)).toNat) ∧ w' = W := fun W => bit_c b (k + 5) W (by omega)
      have B6 : ∀ W, Calls Tryz.prog 130 #[.int .u8 b.toNat, .int .i64 ((k : Int) + 6)] W fun e w' => e = .returned (.int .u8 (bt b (k + 6)).toNat) ∧ w' = W := fun W => bit_c b (k + 6) W (by omega)
      have B7 : ∀ W, Calls Tryz.prog 130 #[.int .u8 b.toNat, .int .i64 ((k : Int) + 7)] W fun e w' => e = .returned (.int .u8 (bt b (k + 7)).toNat) ∧ w' = W := fun W => bit_c b (k + 7) W (by omega)
      have B9 : ∀ W, Calls Tryz.prog 130 #[.int .u8 99, .int .i64 k] W fun e w' => e = .returned (.int .u8 (bt 99 k).toNat) ∧ w' = W := fun W => bit_c 99 k W (by omega)
      generalize bt b k = c0 at *
      generalize bt b (k + 4) = c4 at *
      generalize bt b (k + 5) = c5 at *
      generalize bt b (k + 6) = c6 at *
      generalize bt b (k + 7) = c7 at *
      generalize bt 99 k = c9 at *
      have x1 := bits_xor8 c0 c4
      have x2 := bits_xor8 (c0 ^^^ c4) c5
      have x3 := bits_xor8 (c0 ^^^ c4 ^^^ c5) c6
      have x4 := bits_xor8 (c0 ^^^ c4 ^^^ c5 ^^^ c6) c7
      have x5 := bits_xor8 (c0 ^^^ c4 ^^^ c5 ^^^ c6 ^^^ c7) c9
      rw [← ev] at x5
      clear ev
      generalize c0 ^^^ c4 ^^^ c5 ^^^ c6 ^^^ c7 = e4 at *
      generalize c0 ^^^ c4 ^^^ c5 ^^^ c6 = e3 at *
      generalize c0 ^^^ c4 ^^^ c5 = e2 at *
      generalize c0 ^^^ c4 = e1 at *
      generalize sv b k = vv at *
      have ES := Hid.mk es
      clear es
      generalize so b k = oo at *
      go_wp2_with fail
      refine (B0 _).mono ?_
      rintro e w1 ⟨rfl, rfl⟩
      go_wp2_with fail
      refine (B4 _).mono ?_
      rintro e w1 ⟨rfl, rfl⟩
      go_wp2_with fail
      refine (B5 _).mono ?_
      rintro e w1 ⟨rfl, rfl⟩
      go_wp2_with fail
      refine (B6 _).mono ?_
      rintro e w1 ⟨rfl, rfl⟩
      go_wp2_with fail
      refine (B7 _).mono ?_
      rintro e w1 ⟨rfl, rfl⟩
      go_wp2_with fail
      refine (B9 _).mono ?_
      rintro e w1 ⟨rfl, rfl⟩
      go_wp2_with fail
      go_roundw
      case rel =>
        refine ⟨k + 1, by omega, by go_num, ?_, by first | rfl | trivial⟩
        rw [ES.out, UInt8.toNat_ofNat']
        simp
      case measure => simp [intOf]; omega
    · have hlt' : ¬ (k : Int) < 8 := by omega
      have : k = 8 := by omega
      subst this
      go_wp2
      go_ret
      exact ⟨rfl, rfl⟩
end Go.Proofs.Qxb6500771aGreat
