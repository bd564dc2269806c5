/- unionvfs: lowestFree. -/
import Derived.Test.Qxb6500767aFa
namespace Go.Proofs.Qxb6500767a
open Go.RowKit Go.Qm
set_option linter.unusedVariables false
set_option linter.unusedSimpArgs false
attribute [local go_sem ↓] Go.wp_at_zero Go.wp_at_succ
theorem not_u32 (u : Nat) (h : u < 2 ^ 32) : bits .xor .u32 (if IntKind.u32.signed = true then -1 else IntKind.u32.max) (u : Int) = ((4294967295 - u : Nat) : Int) := by
  have e1 : (if IntKind.u32.signed = true then (-1 : Int) else IntKind.u32.max) = 4294967295 := rfl
  rw [e1]
  have e2 : (BitVec.ofInt 32 4294967295 ^^^ BitVec.ofInt 32 (u : Int)).toNat = 4294967295 - u := by
    have ea : BitVec.ofInt 32 4294967295 = BitVec.allOnes 32 := by decide
    rw [ea, BitVec.allOnes_xor, BitVec.toNat_not, BitVec.ofInt_natCast, BitVec.toNat_ofNat, Nat.mod_eq_of_lt h]
  show IntKind.u32.wrap ((BitVec.ofInt 32 4294967295 ^^^ BitVec.ofInt 32 (u : Int)).toNat : Int) = _
  rw [e2]
  generalize hx : 4294967295 - u = x
  have : x < 4294967296 := by omega
  simp [IntKind.wrap, IntKind.signed, IntKind.bits]
  omega
theorem not_bit {u i : Nat} (h : u < 2 ^ 32) (hi : i < 32) : (4294967295 - u).testBit i = !u.testBit i := by
  have := Nat.testBit_two_pow_sub_succ h i
  rw [decide_eq_true hi, Bool.true_and] at this
  rw [← this, show 4294967295 - u = 2 ^ 32 - (u + 1) by omega]
def lowN (u : Nat) : Option Nat := (List.range 32).find? fun i => !u.testBit i
theorem lowN_some {u h : Nat} (hh : h < 32) (h1 : u.testBit h = false) (h2 : ∀ i, i < h → u.testBit i = true) : lowN u = some h := by
  unfold lowN
  rw [List.find?_range_eq_some]
  exact ⟨by simp [h1], by simpa using hh, fun j hj => by simp [h2 j hj]⟩
theorem lowN_none {u : Nat} (h : u < 2 ^ 32) (h0 : 4294967295 - u = 0) : lowN u = none := by
  unfold lowN
  rw [List.find?_eq_none]
  intro i hi
  have hi' : i < 32 := List.mem_range.1 hi
  have := not_bit h hi'
  rw [h0, Nat.zero_testBit] at this
  simpa using this
set_option maxRecDepth 3000 in
set_option maxHeartbeats 2000000 in
theorem lowestFree_c (gf gt u : Nat) (hs : List Hd) (w : World) (hf : FSW w gf gt u hs) :
    Calls Try.prog 79 #[.pointer (some ⟨gf, 0, none⟩)] w fun e w' => e = .returned (.int .i64 (optI (lowN u))) ∧ w' = w := by
  obtain ⟨c0, c1⟩ := hf.head
  have hu := hf.lt
  have nu := not_u32 u hu
  have HB := Hid.mk (fun i (hi : i < 32) => not_bit hu hi)
  have HZ : Hid (4294967295 - u = 0 → lowN u = none) := Hid.mk (fun e => lowN_none hu e)
  have HS : Hid (∀ h, h < 32 → u.testBit h = false → (∀ i, i < h → u.testBit i = true) → lowN u = some h) := Hid.mk (fun h a b c => lowN_some a b c)
  have hvl : 4294967295 - u < 2 ^ 32 := by omega
  generalize 4294967295 - u = v at *
  generalize lowN u = R at *
  by_cases hv0 : v = 0
  · have HF := Hid.mk (HZ.out hv0)
    subst hv0
    clear hf HZ HS HB
    go_enter Try.func79, Try.ntmps79
    go_wp2_with fail
    go_ret
    rw [HF.out]
    exact ⟨rfl, rfl⟩
  · have q0 : ((v : Int) == 0) = false := by simp; omega
    go_enter Try.func79, Try.ntmps79
    go_wp2_with fail
    clear q0 nu
    go_loopg [3, 4] 32 (fun gk fv hv wr => ∃ h x : Nat, h + gk = 32 ∧ h < 32 ∧ x = v / 2 ^ h ∧ x ≠ 0 ∧ fv = .int .u32 (x : Nat) ∧ hv = .int .i64 (h : Nat) ∧ (∀ i, i < h → u.testBit i = true) ∧ wr = w)
    case atStart => exact ⟨0, v, rfl, by omega, by simp, hv0, rfl, rfl, fun i hi => absurd hi (Nat.not_lt_zero _), rfl⟩
    case round => as_aux_lemma =>
      obtain ⟨h, x, hk, hh, hx, hx0, rfl, rfl, hbs, rfl⟩ := hrel
      have hxl : x < 2 ^ 32 := by rw [hx]; exact Nat.lt_of_le_of_lt (Nat.div_le_self _ _) hvl
      have ba := bit_and x 0 hxl (by omega)
      have ba1 : (bits .and .u32 (x : Int) 1 == 0) = !x.testBit 0 := by simpa using ba
      have htb : x.testBit 0 = !u.testBit h := by rw [hx, Nat.testBit_div_two_pow, Nat.zero_add, HB.out h hh]
      rw [htb, Bool.not_not] at ba1
      cases hut : u.testBit h with
      | false =>
        have HF := Hid.mk (HS.out h hh hut hbs)
        rw [hut] at ba1
        clear HS HZ HB hbs hut htb ba hx
        go_wp2_with fail
        go_ret
        rw [HF.out]
        exact ⟨rfl, rfl⟩
      | true =>
        rw [hut] at ba1 htb
        have hev : x % 2 = 0 := by
          rw [Nat.testBit_zero] at htb
          simp only [Bool.not_true, decide_eq_false_iff_not] at htb
          omega
        have hx2 : x / 2 = v / 2 ^ (h + 1) := by rw [hx, Nat.div_div_eq_div_mul, Nat.pow_succ]
        have hne : x / 2 ≠ 0 := by omega
        have hh1 : h + 1 < 32 := by
          rcases Nat.lt_or_ge (h + 1) 32 with a | a
          · exact a
          · exfalso
            have : v / 2 ^ (h + 1) = 0 := Nat.div_eq_of_lt (Nat.lt_of_lt_of_le hvl (Nat.pow_le_pow_right (by omega) a))
            omega
        have e3 : (x : Int) / 2 = ((x / 2 : Nat) : Int) := by omega
        have HB2 : Hid (∀ i, i < h + 1 → u.testBit i = true) := Hid.mk (fun i hi => by
          by_cases e : i = h
          · subst e; exact hut
          · exact hbs i (by omega))
        have HX2 := Hid.mk hx2
        have HNE := Hid.mk hne
        clear hut hbs htb ba hx hx2 hev hx0 HS HZ HB hne
        generalize x / 2 = y at *
        go_wp2_with fail
        go_roundg (gk - 1)
        case measure => omega
        case rel => exact ⟨h + 1, y, by omega, hh1, HX2.out, HNE.out, by first | rfl | go_num, by go_num, HB2.out, rfl⟩
end Go.Proofs.Qxb6500767a
