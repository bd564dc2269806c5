/- cipherm: AES's shiftRows and mixColumns. -/
import Derived.Test.Qxb6500771aGreatAe
namespace Go.Proofs.Qxb6500771aGreat
open Go.RowKit Go.Qm
set_option linter.unusedVariables false
set_option linter.unusedSimpArgs false
attribute [local go_sem ↓] Go.wp_at_zero Go.wp_at_succ

/-- shiftRows after k stores. -/
def srk (s : List UInt8) : Nat → List UInt8
  | 0 => s
  | k + 1 => (srk s k).set k (s.getD (4 * ((k / 4 + k % 4) % 4) + k % 4) 0)
theorem srk_length (s : List UInt8) : ∀ k, (srk s k).length = s.length
  | 0 => rfl
  | k + 1 => by simp [srk, srk_length s k]
set_option maxHeartbeats 2000000 in
theorem shiftRows_c (v : Value) (s : List UInt8) (w : World) (h : Bs w v s) (hl : s.length = 16) : Calls Tryz.prog 112 #[v, .bool false] w fun e w' => ∃ v', e = .returned v' ∧ Own w.heap.size 5 w' v' ((srk s 16).map cb) ∧ Keep w w' := by
  obtain ⟨a, c, rfl, hac, hcm, hca⟩ := h.form
  unfold maxLen at hcm
  rw [hl] at h ⊢
  have HL := Hid.mk hl
  clear hl hac
  have hcp := copy_c _ s w h (by have := HL.out; omega)
  clear h
  go_enter Tryz.func112, Tryz.ntmps112
  go_wp2_with fail
  refine hcp.mono ?_
  rintro e w1 ⟨v1, rfl, hown, k1⟩
  clear hcp
  rcases hown.win with ⟨-, h0⟩ | ⟨g, cap, sp, rfl, hB, hwin, hcap, hm⟩
  · exact absurd (congrArg List.length h0) (by rw [HL.out]; simp)
  unfold maxLen at hm
  have HC := Hid.mk hcap
  rw [HL.out]
  clear hcap hown
  have hcap16 : 16 ≤ cap := by have := HC.out; have := HL.out; omega
  go_wp2_with fail
  go_loopw [6, 7] (fun cv rv wr => ∃ q : Nat, q ≤ 4 ∧ cv = .int .i64 q ∧ Win wr g 5 [] (srk s (4 * q)) sp ∧ Keep w wr) (fun c _ _ => 4 - (intOf c).toNat)
  case atStart => exact ⟨0, by omega, rfl, hwin, k1⟩
  case round =>
    obtain ⟨q, hq, rfl, hw, kw⟩ := hrel
    by_cases hlt : q < 4
    · have hlt' : (q : Int) < 4 := by omega
      go_wp2_with fail
      go_loopw [7] (fun rv wr => ∃ r : Nat, r ≤ 4 ∧ rv = .int .i64 r ∧ Win wr g 5 [] (srk s (4 * q + r)) sp ∧ Keep w wr) (fun r _ => 4 - (intOf r).toNat)
      case atStart => exact ⟨0, by omega, rfl, hw, kw⟩
      case round =>
        clear hw kw
        obtain ⟨r, hr, rfl, hw, kw⟩ := hrel
        by_cases hlr : r < 4
        · have hlr' : (r : Int) < 4 := by omega
          obtain ⟨m, hm1⟩ : ∃ m, m = (q + r) % 4 := ⟨_, rfl⟩
          have hm4 : m < 4 := by rw [hm1]; exact Nat.mod_lt _ (by omega)
          have ht : ((q : Int) + r).tmod 4 = (m : Int) := by rw [hm1]; exact (Int.ofNat_tmod (q + r) 4).symm
          obtain ⟨b, o, rfl, h1⟩ := hca (4 * m + r) (by have := HL.out; omega)
          replace h1 := kw.cell h1
          have hgd : s[4 * m + r]'(by have := HL.out; omega) = s.getD (4 * (((4 * q + r) / 4 + (4 * q + r) % 4) % 4) + (4 * q + r) % 4) 0 := by
            have e1 : (4 * q + r) / 4 = q := by omega
            have e2 : (4 * q + r) % 4 = r := by omega
            rw [e1, e2, ← hm1]
            simp [List.getD, show 4 * m + r < s.length by have := HL.out; omega]
          have hset := hw.set (k := 4 * q + r) (by rw [srk_length]; have := HL.out; omega) (s[4 * m + r]'(by have := HL.out; omega)) (o := 4 * q + r) (by simp)
          have hf := hw.frozen (4 * q + r)
          obtain ⟨cv, hc⟩ : ∃ cv : Value, wr.cell? ⟨g, 4 * q + r, none⟩ = some cv := ⟨_, hw.cell (k := 4 * q + r) (o := 4 * q + r) (by rw [srk_length]; have := HL.out; omega) (by simp)⟩
          have HG := Hid.mk hgd
          clear hgd hm1
          generalize s[4 * m + r]'(by have := HL.out; omega) = x at *
          obtain ⟨j, hj⟩ : ∃ j : Nat, j = 4 * m + r := ⟨_, rfl⟩
          obtain ⟨i, hi⟩ : ∃ i : Nat, i = 4 * q + r := ⟨_, rfl⟩
          rw [← hj] at h1
          rw [← hi] at hset hf hc HG
          have z1 : IntKind.i64.wrap (4 * (m : Int) + r) = (j : Int) := by rw [hj, IntKind.wrap_i64] <;> omega
          have z2 : IntKind.i64.wrap (4 * (q : Int) + r) = (i : Int) := by rw [hi, IntKind.wrap_i64] <;> omega
          have j16 : (j : Int) < 16 := by omega
          have i16 : (i : Int) < 16 := by omega
          have HI := Hid.mk hi
          clear hj hi
          have HS := Hid.mk hset
          clear hset
          go_wp2_with fail
          go_roundw
          case rel =>
            refine ⟨r + 1, by omega, by go_num, ?_, kw.setCell (by simpa using Nat.le_trans (Nat.le_refl _) hB) _⟩
            have h2 := HS.out
            rw [show 4 * q + (r + 1) = i + 1 by have := HI.out; omega]
            show Win _ g 5 [] ((srk s i).set i (s.getD (4 * ((i / 4 + i % 4) % 4) + i % 4) 0)) sp
            rw [← HG.out]
            exact h2
          case measure => simp [intOf]; omega
        · have hlr' : ¬ (r : Int) < 4 := by omega
          have : r = 4 := by omega
          subst this
          go_wp2_with fail
          go_roundw
          case rel => exact ⟨q + 1, by omega, by go_num, by rw [Nat.mul_add]; exact hw, kw⟩
          case measure => simp [intOf]; omega
    · have hlt' : ¬ (q : Int) < 4 := by omega
      have : q = 4 := by omega
      subst this
      go_wp2
      go_ret
      refine ⟨_, rfl, ?_, kw⟩
      have := Own.of_win (cap := cap) hB hw (by rw [srk_length]; exact HC.out) (by simpa [maxLen] using hm)
      rw [srk_length, HL.out] at this
      exact this
end Go.Proofs.Qxb6500771aGreat
