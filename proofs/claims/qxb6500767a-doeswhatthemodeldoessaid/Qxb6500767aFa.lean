/- unionvfs: the handles in memory; get, getFile. -/
import Derived.Test.Qxb6500767aTf
import Derived.Test.Qxb6500767aTc
namespace Go.Qm
open Go Go.RowKit
set_option linter.unusedVariables false
set_option linter.unusedSimpArgs false
theorem and_pow (u h : Nat) : u &&& 2 ^ h = if u.testBit h then 2 ^ h else 0 := by
  apply Nat.eq_of_testBit_eq
  intro i
  rw [Nat.testBit_and, Nat.testBit_two_pow]
  by_cases e : h = i
  · subst e
    cases hb : u.testBit h
    · simp
    · simp [Nat.testBit_two_pow]
  · rw [decide_eq_false e, Bool.and_false]
    cases hb : u.testBit h
    · simp
    · simp [Nat.testBit_two_pow, e]
theorem bit_and (u h : Nat) (hu : u < 2 ^ 32) (hh : h < 32) : (bits .and .u32 (u : Int) ((2 : Int) ^ h % 4294967296) == 0) = !u.testBit h := by
  have h1 : 2 ^ h < 2 ^ 32 := Nat.pow_lt_pow_right (by omega) hh
  have e0 : (2 : Int) ^ h % 4294967296 = ((2 ^ h : Nat) : Int) := by
    have : (2 : Int) ^ h = ((2 ^ h : Nat) : Int) := by push_cast; rfl
    have h1' : (2 ^ h : Nat) < 4294967296 := h1
    rw [this]
    generalize (2 ^ h : Nat) = x at *
    omega
  have e : (BitVec.ofInt 32 (u : Int) &&& BitVec.ofInt 32 ((2 ^ h : Nat) : Int)).toNat = u &&& 2 ^ h := by
    rw [BitVec.ofInt_natCast, BitVec.ofInt_natCast, BitVec.toNat_and, BitVec.toNat_ofNat, BitVec.toNat_ofNat, Nat.mod_eq_of_lt hu, Nat.mod_eq_of_lt h1]
  have hp : 0 < 2 ^ h := Nat.two_pow_pos h
  have e2 : bits .and .u32 (u : Int) ((2 ^ h : Nat) : Int) = ((u &&& 2 ^ h : Nat) : Int) := by
    show IntKind.u32.wrap ((BitVec.ofInt 32 (u : Int) &&& BitVec.ofInt 32 ((2 ^ h : Nat) : Int)).toNat : Int) = _
    rw [e]
    have : u &&& 2 ^ h ≤ 2 ^ h := Nat.and_le_right
    generalize u &&& 2 ^ h = x at *
    simp [IntKind.wrap, IntKind.signed, IntKind.bits]
    omega
  rw [e0, e2, and_pow]
  cases u.testBit h
  · simp
  · simp only [if_true, Bool.not_true, beq_eq_false_iff_ne, ne_eq]
    omega
end Go.Qm
namespace Go.Proofs.Qxb6500767a
open Go.RowKit Go.Qm
set_option linter.unusedVariables false
set_option linter.unusedSimpArgs false
attribute [local go_sem ↓] Go.wp_at_zero Go.wp_at_succ
structure Hd where
  node : Nat
  flags : Int
  dir : Bool
  off : Nat
  cur : List UInt8
def hd0 : Hd := ⟨0, 0, false, 0, []⟩
def hdC (x : Hd) : List Value := [.int .i64 (x.node : Nat), .int .i64 x.flags, .bool x.dir, .int .i64 (x.off : Nat), str x.cur]
theorem hdC_length (x : Hd) : (hdC x).length = 5 := rfl
def fsC (gt u : Nat) (hs : List Hd) : List Value := [.pointer (some ⟨gt, 0, none⟩), .int .u32 (u : Nat)] ++ hs.flatMap hdC
def hat (hs : List Hd) (h : Nat) : Hd := hs.getD h hd0
structure FSW (w : World) (gf gt u : Nat) (hs : List Hd) : Prop where
  arr : Arr w gf 111 (fsC gt u hs)
  len : hs.length = 32
  lt : u < 2 ^ 32
theorem FSW.keep {w w' : World} {gf gt u : Nat} {hs : List Hd} (h : FSW w gf gt u hs) (k : Keep w w') : FSW w' gf gt u hs := ⟨h.arr.keep k, h.len, h.lt⟩
theorem FSW.head {w : World} {gf gt u : Nat} {hs : List Hd} (h : FSW w gf gt u hs) : w.cell? ⟨gf, 0, none⟩ = some (.pointer (some ⟨gt, 0, none⟩)) ∧ w.cell? ⟨gf, 1, none⟩ = some (.int .u32 (u : Nat)) := ⟨h.arr.cell 0, h.arr.cell 1⟩
theorem FSW.cell {w : World} {gf gt u : Nat} {hs : List Hd} (h : FSW w gf gt u hs) {i : Nat} (hi : i < 32) :
    w.cell? ⟨gf, 2 + i * 5, none⟩ = some (.int .i64 ((hat hs i).node : Nat)) ∧ w.cell? ⟨gf, 2 + i * 5 + 1, none⟩ = some (.int .i64 (hat hs i).flags) ∧ w.cell? ⟨gf, 2 + i * 5 + 2, none⟩ = some (.bool (hat hs i).dir) ∧ w.cell? ⟨gf, 2 + i * 5 + 3, none⟩ = some (.int .i64 ((hat hs i).off : Nat)) ∧ w.cell? ⟨gf, 2 + i * 5 + 4, none⟩ = some (str (hat hs i).cur) := by
  have hl : i < hs.length := by rw [h.len]; exact hi
  have e : hat hs i = hs[i] := by unfold hat; rw [List.getD_eq_getElem?_getD, List.getElem?_eq_getElem hl]; rfl
  have g : ∀ j, j < 5 → w.cell? ⟨gf, 2 + i * 5 + j, none⟩ = (hdC hs[i])[j]? := fun j hj => by
    rw [h.arr.cell, fsC, Nat.add_assoc, List.getElem?_append_right (by simp)]
    simp only [List.length_cons, List.length_nil]
    rw [show 2 + (i * 5 + j) - 2 = i * 5 + j by omega]
    exact flat_get hdC 5 hdC_length hs i j hl hj
  rw [e]
  exact ⟨g 0 (by omega), g 1 (by omega), g 2 (by omega), g 3 (by omega), g 4 (by omega)⟩
/-- Is handle h open? -/
def opn (u : Nat) (h : Int) : Bool := decide (0 ≤ h) && decide (h < 32) && u.testBit h.toNat
def getOK (u : Nat) (hs : List Hd) (h need : Int) : Bool := opn u h && (bits .and .i64 (hat hs h.toNat).flags need == need)
def getV (gf u : Nat) (hs : List Hd) (h need : Int) : Value := if getOK u hs h need = true then .tuple #[.pointer (some ⟨gf, 2 + h.toNat * 5, none⟩), .int .i64 0] else .tuple #[.pointer none, .int .i64 1]
set_option maxRecDepth 3000 in
set_option maxHeartbeats 2000000 in
theorem get_c (gf gt u : Nat) (hs : List Hd) (h need : Int) (w : World) (hf : FSW w gf gt u hs) :
    Calls Try.prog 74 #[.pointer (some ⟨gf, 0, none⟩), .int .i64 h, .int .i64 need] w fun e w' => e = .returned (getV gf u hs h need) ∧ w' = w := by
  obtain ⟨c0, c1⟩ := hf.head
  by_cases h0 : h < 0
  · have HV : Hid (getV gf u hs h need = .tuple #[.pointer none, .int .i64 1]) := Hid.mk (by unfold getV getOK opn; rw [decide_eq_false (by omega)]; simp)
    generalize getV gf u hs h need = V at *
    go_enter Try.func74, Try.ntmps74
    go_wp2_with fail
    go_ret2
    rw [HV.out]
    exact ⟨rfl, rfl⟩
  · by_cases h1 : h ≥ 32
    · have HV : Hid (getV gf u hs h need = .tuple #[.pointer none, .int .i64 1]) := Hid.mk (by unfold getV getOK opn; rw [decide_eq_false (show ¬ h < 32 by omega)]; simp)
      generalize getV gf u hs h need = V at *
      go_enter Try.func74, Try.ntmps74
      go_wp2_with fail
      go_ret2
      rw [HV.out]
      exact ⟨rfl, rfl⟩
    · obtain ⟨n, rfl⟩ : ∃ n : Nat, h = (n : Int) := ⟨h.toNat, by omega⟩
      have hn : n < 32 := by omega
      obtain ⟨d0, d1, d2, d3, d4⟩ := hf.cell hn
      have ba := bit_and u n hf.lt hn
      have ho : opn u (n : Int) = u.testBit n := by unfold opn; rw [decide_eq_true (by omega), decide_eq_true (by omega)]; simp
      have n32 : (n : Int) < 32 := by omega
      have n0 : (0 : Int) ≤ n := by omega
      cases htb : u.testBit n with
      | false =>
        have HV : Hid (getV gf u hs (n : Int) need = .tuple #[.pointer none, .int .i64 1]) := Hid.mk (by unfold getV getOK; rw [ho, htb]; simp)
        rw [htb, Bool.not_false] at ba
        generalize getV gf u hs (n : Int) need = V at *
        clear htb ho hf
        go_enter Try.func74, Try.ntmps74
        go_wp2_with fail
        go_ret2
        rw [HV.out]
        exact ⟨rfl, rfl⟩
      | true =>
        rw [htb, Bool.not_true] at ba
        by_cases hb : bits .and .i64 (hat hs n).flags need = need
        · have HV : Hid (getV gf u hs (n : Int) need = .tuple #[.pointer (some ⟨gf, 2 + n * 5, none⟩), .int .i64 0]) := Hid.mk (by unfold getV getOK; rw [ho, htb]; simp [hb])
          have q1 : (bits .and .i64 (hat hs n).flags need != need) = false := by simp [hb]
          generalize getV gf u hs (n : Int) need = V at *
          clear htb ho hf hb
          go_enter Try.func74, Try.ntmps74
          go_wp2_with fail
          go_ret2
          rw [HV.out]
          exact ⟨rfl, rfl⟩
        · have HV : Hid (getV gf u hs (n : Int) need = .tuple #[.pointer none, .int .i64 1]) := Hid.mk (by unfold getV getOK; rw [ho, htb]; simp [hb])
          have q1 : (bits .and .i64 (hat hs n).flags need != need) = true := by simp [hb]
          generalize getV gf u hs (n : Int) need = V at *
          clear htb ho hf hb
          go_enter Try.func74, Try.ntmps74
          go_wp2_with fail
          go_ret2
          rw [HV.out]
          exact ⟨rfl, rfl⟩
end Go.Proofs.Qxb6500767a
