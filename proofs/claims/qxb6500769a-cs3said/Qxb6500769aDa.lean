/- cipherm: AES's inverse S-box and shiftRows backward. -/
import Derived.Test.Qxb6500769aAf
namespace Go.Proofs.Qxb6500769a
open Go.RowKit Go.Qm
set_option linter.unusedVariables false
set_option linter.unusedSimpArgs false
attribute [local go_sem ↓] Go.wp_at_zero Go.wp_at_succ

/-- invSubByte. -/
def isv (b : UInt8) (i : Nat) : UInt8 := bt b (i + 2) ^^^ bt b (i + 5) ^^^ bt b (i + 7) ^^^ bt 5 i
def iso (b : UInt8) : Nat → UInt8
  | 0 => 0
  | k + 1 => UInt8.ofNat ((iso b k).toNat + (isv b k).toNat * 2 ^ k % 256)
def isub8 (x : UInt8) : UInt8 := inv8 (iso x 8)
set_option maxHeartbeats 4000000 in
theorem invSubByte_c (b : UInt8) (w : World) : Calls Try.prog 85 #[.int .u8 b.toNat] w fun e w' => e = .returned (.int .u8 (isub8 b).toNat) ∧ w' = w := by
  go_enter Try.func85, Try.ntmps85
  go_wp2_with fail
  go_loopw [3, 4, 5] (fun ov iv vv wr => ∃ k : Nat, k ≤ 8 ∧ iv = .int .i64 k ∧ ov = .int .u8 (iso b k).toNat ∧ wr = w) (fun _ i _ _ => 8 - (intOf i).toNat)
  case atStart => exact ⟨0, by omega, rfl, rfl, rfl⟩
  case round =>
    obtain ⟨k, hk, rfl, rfl, rfl⟩ := hrel
    by_cases hlt : k < 8
    · have hlt' : (k : Int) < 8 := by omega
      have k0 : ¬ (k : Int) < 0 := by omega
      have es : iso b (k + 1) = UInt8.ofNat ((iso b k).toNat + (isv b k).toNat * 2 ^ k % 256) := rfl
      have ev : isv b k = bt b (k + 2) ^^^ bt b (k + 5) ^^^ bt b (k + 7) ^^^ bt 5 k := rfl
      have B2 : ∀ W, Calls Try.prog 88 #[.int .u8 b.toNat, .int .i64 ((k : Int) + 2)] W fun e w' => e = .returned (.int .u8 (bt b (k + 2)).toNat) ∧ w' = W := fun W => bit_c b (k + 2) W (by omega)
      have B5 : ∀ W, Calls Try.prog 88 #[.int .u8 b.toNat, .int .i64 ((k : Int) + 5)] W fun e w' => e = .returned (.int .u8 (bt b (k + 5)).toNat) ∧ w' = W := fun W => bit_c b (k + 5) W (by omega)
      have B7 : ∀ W, Calls Try.prog 88 #[.int .u8 b.toNat, .int .i64 ((k : Int) + 7)] W fun e w' => e = .returned (.int .u8 (bt b (k + 7)).toNat) ∧ w' = W := fun W => bit_c b (k + 7) W (by omega)
      have B9 : ∀ W, Calls Try.prog 88 #[.int .u8 5, .int .i64 k] W fun e w' => e = .returned (.int .u8 (bt 5 k).toNat) ∧ w' = W := fun W => bit_c 5 k W (by omega)
      generalize bt b (k + 2) = c2 at *
      generalize bt b (k + 5) = c5 at *
      generalize bt b (k + 7) = c7 at *
      generalize bt 5 k = c9 at *
      have x1 := bits_xor8 c2 c5
      have x2 := bits_xor8 (c2 ^^^ c5) c7
      have x3 := bits_xor8 (c2 ^^^ c5 ^^^ c7) c9
      rw [← ev] at x3
      clear ev
      generalize c2 ^^^ c5 ^^^ c7 = e2 at *
      generalize c2 ^^^ c5 = e1 at *
      generalize isv b k = vv at *
      have ES := Hid.mk es
      clear es
      generalize iso b k = oo at *
      go_wp2_with fail
      refine (B2 _).mono ?_
      rintro e w1 ⟨rfl, rfl⟩
      go_wp2_with fail
      refine (B5 _).mono ?_
      rintro e w1 ⟨rfl, rfl⟩
      go_wp2_with fail
      refine (B7 _).mono ?_
      rintro e w1 ⟨rfl, rfl⟩
      go_wp2_with fail
      refine (B9 _).mono ?_
      rintro e w1 ⟨rfl, rfl⟩
      go_wp2_with fail
      go_roundw
      case rel =>
        refine ⟨k + 1, by omega, by go_num, ?_, by first | rfl | trivial⟩
        rw [ES.out, UInt8.toNat_ofNat']
        simp
      case measure => simp [intOf]; omega
    · have hlt' : ¬ (k : Int) < 8 := by omega
      have : k = 8 := by omega
      subst this
      have IV := fun W => inverse_c (iso b 8) W
      have EI : Hid (isub8 b = inv8 (iso b 8)) := Hid.mk rfl
      generalize iso b 8 = o at *
      go_wp2_with fail
      refine (IV _).mono ?_
      rintro e w1 ⟨rfl, rfl⟩
      go_wp2
      go_ret
      exact ⟨by rw [EI.out]; rfl, rfl⟩
/-- shiftRows backward after k stores. -/
def srb (s : List UInt8) : Nat → List UInt8
  | 0 => s
  | k + 1 => (srb s k).set (4 * ((k / 4 + k % 4) % 4) + k % 4) (s.getD k 0)
theorem srb_length (s : List UInt8) : ∀ k, (srb s k).length = s.length
  | 0 => rfl
  | k + 1 => by simp [srb, srb_length s k]
set_option maxHeartbeats 2000000 in
theorem shiftRowsB_c (v : Value) (s : List UInt8) (w : World) (h : Bs w v s) (hl : s.length = 16) : Calls Try.prog 63 #[v, .bool true] w fun e w' => ∃ v', e = .returned v' ∧ Own w.heap.size 5 w' v' ((srb s 16).map cb) ∧ Keep w w' := by
  obtain ⟨a, c, rfl, hac, hcm, hca⟩ := h.form
  unfold maxLen at hcm
  rw [hl] at h ⊢
  have HL := Hid.mk hl
  clear hl hac
  have hcp := copy_c _ s w h (by have := HL.out; omega)
  clear h
  go_enter Try.func63, Try.ntmps63
  go_wp2_with fail
  refine hcp.mono ?_
  rintro e w1 ⟨v1, rfl, hown, k1⟩
  clear hcp
  rcases hown.win with ⟨-, h0⟩ | ⟨g, cap, sp, rfl, hB, hwin, hcap, hm⟩
  · exact absurd (congrArg List.length h0) (by rw [HL.out]; simp)
  unfold maxLen at hm
  have HC := Hid.mk hcap
  rw [HL.out]
  clear hcap hown
  have hcap16 : 16 ≤ cap := by have := HC.out; have := HL.out; omega
  go_wp2_with fail
  go_loopw [6, 7] (fun cv rv wr => ∃ q : Nat, q ≤ 4 ∧ cv = .int .i64 q ∧ Win wr g 5 [] (srb s (4 * q)) sp ∧ Keep w wr) (fun c _ _ => 4 - (intOf c).toNat)
  case atStart => exact ⟨0, by omega, rfl, hwin, k1⟩
  case round =>
    obtain ⟨q, hq, rfl, hw, kw⟩ := hrel
    by_cases hlt : q < 4
    · have hlt' : (q : Int) < 4 := by omega
      go_wp2_with fail
      go_loopw [7] (fun rv wr => ∃ r : Nat, r ≤ 4 ∧ rv = .int .i64 r ∧ Win wr g 5 [] (srb s (4 * q + r)) sp ∧ Keep w wr) (fun r _ => 4 - (intOf r).toNat)
      case atStart => exact ⟨0, by omega, rfl, hw, kw⟩
      case round =>
        clear hw kw
        obtain ⟨r, hr, rfl, hw, kw⟩ := hrel
        by_cases hlr : r < 4
        · have hlr' : (r : Int) < 4 := by omega
          obtain ⟨m, hm1⟩ : ∃ m, m = (q + r) % 4 := ⟨_, rfl⟩
          have hm4 : m < 4 := by rw [hm1]; exact Nat.mod_lt _ (by omega)
          have ht : ((q : Int) + r).tmod 4 = (m : Int) := by rw [hm1]; exact (Int.ofNat_tmod (q + r) 4).symm
          have hlq : 4 * q + r < s.length := by have := HL.out; omega
          obtain ⟨b, o, rfl, h1⟩ := hca (4 * q + r) hlq
          replace h1 := kw.cell h1
          have hgd : s[4 * q + r]'hlq = s.getD (4 * q + r) 0 := by
            simp [List.getD, show 4 * q + r < s.length by have := HL.out; omega]
          have hmi : 4 * (((4 * q + r) / 4 + (4 * q + r) % 4) % 4) + (4 * q + r) % 4 = 4 * m + r := by
            have e1 : (4 * q + r) / 4 = q := by omega
            have e2 : (4 * q + r) % 4 = r := by omega
            rw [e1, e2, ← hm1]
          have HMI := Hid.mk hmi
          clear hmi
          have hset := hw.set (k := 4 * m + r) (by rw [srb_length]; have := HL.out; omega) (s[4 * q + r]'hlq) (o := 4 * m + r) (by simp)
          have hf := hw.frozen (4 * m + r)
          obtain ⟨cv, hc⟩ : ∃ cv : Value, wr.cell? ⟨g, 4 * m + r, none⟩ = some cv := ⟨_, hw.cell (k := 4 * m + r) (o := 4 * m + r) (by rw [srb_length]; have := HL.out; omega) (by simp)⟩
          have HG := Hid.mk hgd
          clear hgd hm1
          generalize s[4 * q + r]'hlq = x at *
          clear hlq
          obtain ⟨j, hj⟩ : ∃ j : Nat, j = 4 * m + r := ⟨_, rfl⟩
          obtain ⟨i, hi⟩ : ∃ i : Nat, i = 4 * q + r := ⟨_, rfl⟩
          rw [← hi] at h1 HG hset
          rw [← hj] at hset hf hc
          rw [← hi, ← hj] at HMI
          have z1 : IntKind.i64.wrap (4 * (m : Int) + r) = (j : Int) := by rw [hj, IntKind.wrap_i64] <;> omega
          have z2 : IntKind.i64.wrap (4 * (q : Int) + r) = (i : Int) := by rw [hi, IntKind.wrap_i64] <;> omega
          have j16 : (j : Int) < 16 := by omega
          have i16 : (i : Int) < 16 := by omega
          have HI := Hid.mk hi
          clear hj hi
          have HS := Hid.mk hset
          clear hset
          go_wp2_with fail
          go_roundw
          case rel =>
            refine ⟨r + 1, by omega, by go_num, ?_, kw.setCell (by simpa using Nat.le_trans (Nat.le_refl _) hB) _⟩
            have h2 := HS.out
            rw [show 4 * q + (r + 1) = i + 1 by have := HI.out; omega]
            show Win _ g 5 [] ((srb s i).set (4 * ((i / 4 + i % 4) % 4) + i % 4) (s.getD i 0)) sp
            rw [← HG.out, HMI.out]
            exact h2
          case measure => simp [intOf]; omega
        · have hlr' : ¬ (r : Int) < 4 := by omega
          have : r = 4 := by omega
          subst this
          go_wp2_with fail
          go_roundw
          case rel => exact ⟨q + 1, by omega, by go_num, by rw [Nat.mul_add]; exact hw, kw⟩
          case measure => simp [intOf]; omega
    · have hlt' : ¬ (q : Int) < 4 := by omega
      have : q = 4 := by omega
      subst this
      go_wp2
      go_ret
      refine ⟨_, rfl, ?_, kw⟩
      have := Own.of_win (cap := cap) hB hw (by rw [srb_length]; exact HC.out) (by simpa [maxLen] using hm)
      rw [srb_length, HL.out] at this
      exact this
end Go.Proofs.Qxb6500769a
