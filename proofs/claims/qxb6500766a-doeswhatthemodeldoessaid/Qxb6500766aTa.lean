/- foldindex: the slots of a table; find. -/
import Derived.Test.Qxb6500766aSt
import Derived.Test.Qxb6500766aMx
import Derived.Deep.CutRange
import Derived.Deep.LoopGhost
namespace Go.Qm
open Go Go.RowKit
theorem bits_and_i64 (x y : Nat) (hx : x < 2 ^ 63) (hy : y < 2 ^ 63) : bits .and .i64 (x : Int) (y : Int) = ((x &&& y : Nat) : Int) := by
  have h : x &&& y < 2 ^ 63 := Nat.lt_of_le_of_lt Nat.and_le_left hx
  show IntKind.i64.wrap ((BitVec.ofInt 64 _ &&& BitVec.ofInt 64 _).toNat : Int) = _
  rw [BitVec.toNat_and, ofInt_u64' x (by omega), ofInt_u64' y (by omega), IntKind.wrap_i64] <;> omega
theorem mask_i64 (x m : Nat) (hx : x < 2 ^ 40) (hm : m ≤ 40) : bits .and .i64 (x : Int) ((2 ^ m - 1 : Nat) : Int) = ((x % 2 ^ m : Nat) : Int) := by
  have h1 : 2 ^ m ≤ 2 ^ 40 := Nat.pow_le_pow_right (by omega) hm
  rw [bits_and_i64 x _ (by omega) (by omega), and_mask]
end Go.Qm
namespace Go.Proofs.Qxb6500766a
open Go.RowKit Go.Qm
set_option linter.unusedVariables false
set_option linter.unusedSimpArgs false
attribute [local go_sem ↓] Go.wp_at_zero Go.wp_at_succ
structure Ent where
  layer : Int
  raw : List UInt8
  kind : Int
structure Slot where
  st : Nat
  hash : Int
  key : List UInt8
  lv : Value
  es : List Ent
def slotC (s : Slot) : List Value := [.int .u8 s.st, .int .u32 s.hash, str s.key, s.lv]
theorem slotC_length (s : Slot) : (slotC s).length = 4 := rfl
def free : Slot := ⟨0, 0, [], .slice none 0 0, []⟩
def Slots (w : World) (b : Nat) (ss : List Slot) : Prop := Arr w b 88 (ss.flatMap slotC)
theorem Slots.at {w : World} {b : Nat} {ss : List Slot} (h : Slots w b ss) (i : Nat) (hi : i < ss.length) :
    w.cell? ⟨b, i * 4, none⟩ = some (.int .u8 ss[i].st) ∧ w.cell? ⟨b, i * 4 + 1, none⟩ = some (.int .u32 ss[i].hash) ∧ w.cell? ⟨b, i * 4 + 2, none⟩ = some (str ss[i].key) ∧ w.cell? ⟨b, i * 4 + 3, none⟩ = some ss[i].lv := by
  refine ⟨?_, ?_, ?_, ?_⟩
  · have e := flat_get slotC 4 slotC_length ss i 0 hi (by omega)
    rw [Nat.add_zero] at e
    exact (Arr.cell h _).trans e
  · exact (Arr.cell h _).trans (flat_get slotC 4 slotC_length ss i 1 hi (by omega))
  · exact (Arr.cell h _).trans (flat_get slotC 4 slotC_length ss i 2 hi (by omega))
  · exact (Arr.cell h _).trans (flat_get slotC 4 slotC_length ss i 3 hi (by omega))
def spI : Option Nat → Int
  | none => -1
  | some q => q
def orI (sp : Option Nat) (i : Nat) : Nat := match sp with | none => i | some q => q
/-- The probe: what is left to look at, where, the first dead slot passed. -/
def probe (ss : List Slot) (key : List UInt8) (hash : Int) : Nat → Nat → Option Nat → Int × Bool
  | 0, i, sp => (spI sp, false)
  | f + 1, i, sp =>
    if (ss.getD i free).st = 0 then ((orI sp i : Nat), false)
    else if (ss.getD i free).st = 2 then probe ss key hash f ((i + 1) % ss.length) (some (orI sp i))
    else if (ss.getD i free).hash = hash ∧ (ss.getD i free).key = key then ((i : Nat), true)
    else probe ss key hash f ((i + 1) % ss.length) sp
def findF (ss : List Slot) (key : List UInt8) (hash : Int) : Int × Bool := probe ss key hash ss.length (hash.toNat % ss.length) none
set_option maxRecDepth 2000 in
set_option maxHeartbeats 2000000 in
theorem find_c (g o b n m : Nat) (ss : List Slot) (key : List UInt8) (hash : Int) (w : World) (hc : w.cell? ⟨g, o, none⟩ = some (.slice (some ⟨b, 0, none⟩) n n)) (hS : Slots w b ss) (hn : n = ss.length) (hm : n = 2 ^ m) (hm40 : m ≤ 20) (hh : 0 ≤ hash ∧ hash < 4294967296) :
    Calls Try.prog 57 #[.pointer (some ⟨g, o, none⟩), str key, .int .u32 hash] w fun e w' => e = .returned (.tuple #[.int .i64 (findF ss key hash).1, .bool (findF ss key hash).2]) ∧ w' = w := by
  have hn20 : n ≤ 2 ^ 20 := by rw [hm]; exact Nat.pow_le_pow_right (by omega) hm40
  have hn1 : 1 ≤ n := by rw [hm]; exact Nat.one_le_two_pow
  obtain ⟨H, hH⟩ : ∃ H : Nat, hash = (H : Int) := ⟨hash.toNat, by omega⟩
  have hHl : H < 2 ^ 32 := by omega
  obtain ⟨M, hM⟩ : ∃ M : Nat, M = n - 1 := ⟨_, rfl⟩
  have hM' : M = 2 ^ m - 1 := by rw [hM, hm]
  have MK : ∀ x : Nat, x < 2 ^ 40 → bits .and .i64 (x : Int) (M : Int) = ((x % n : Nat) : Int) := by
    intro x hx
    rw [hM', mask_i64 x m hx (by omega), ← hm]
  have mk0 := MK H (by omega)
  have yM : IntKind.i64.wrap ((n : Int) - 1) = (M : Int) := by rw [IntKind.wrap_i64] <;> omega
  have HMK := Hid.mk MK
  have HN := Hid.mk hn
  have HFF : Hid (findF ss key hash = probe ss key hash n (H % n) none) := Hid.mk (by rw [findF, ← hn, hH]; rfl)
  have HH := Hid.mk hH
  rw [hH]
  obtain ⟨i0, hi0⟩ : ∃ i0 : Nat, i0 = H % n := ⟨_, rfl⟩
  have hi0n : i0 < n := by rw [hi0]; exact Nat.mod_lt _ (by omega)
  rw [← hi0] at mk0 HFF
  have HM := Hid.mk hM
  rw [hH] at HFF
  clear hm hM hM' MK hn hi0 hH hh
  go_enter Try.func57, Try.ntmps57
  go_wp2_with fail
  clear mk0 yM
  go_loopg [9, 10, 11, 12] n (fun gk iv sv kv pv wr => ∃ (k i : Nat) (sp : Option Nat), k + gk = n ∧ i < n ∧ iv = .int .i64 i ∧ sv = .int .i64 (spI sp) ∧ kv = .int .i64 k ∧ (∀ q, sp = some q → q < n) ∧ findF ss key H = probe ss key H gk i sp ∧ wr = w)
  case atStart => exact ⟨0, i0, none, by omega, hi0n, rfl, rfl, rfl, by simp, HFF.out, rfl⟩
  case round => as_aux_lemma =>
    obtain ⟨k, i, sp, hk, hin, rfl, rfl, rfl, hsp, hf, rfl⟩ := hrel
    have HF := Hid.mk hf
    have HK := Hid.mk hk
    have HSP := Hid.mk hsp
    clear hf HFF hk hsp
    by_cases hlt : k < n
    · have i1 : (k : Int) < n := by omega
      have i2 : (i : Int) < n := by omega
      have his : i < ss.length := by have := HN.out; omega
      obtain ⟨f, hgf⟩ : ∃ f, gk = f + 1 := ⟨gk - 1, by have := HK.out; omega⟩
      obtain ⟨s0, s1, s2, s3⟩ := hS.at i his
      have hg : ss.getD i free = ss[i] := by rw [List.getD_eq_getElem?_getD, List.getElem?_eq_getElem his]; rfl
      have hf := HF.out
      rw [hgf, probe, hg] at hf
      generalize ss[i] = S at *
      obtain ⟨st, hash', key', lv, es⟩ := S
      simp only at s0 s1 s2 s3 hf
      have HF2 := Hid.mk hf
      have HGF := Hid.mk hgf
      have nx := HMK.out (i + 1) (by omega)
      rw [Int.natCast_add, Int.natCast_one] at nx
      have yi : IntKind.i64.wrap ((i : Int) + 1) = ((i + 1 : Nat) : Int) := by rw [IntKind.wrap_i64] <;> omega
      obtain ⟨i' , hi'⟩ : ∃ i' : Nat, i' = (i + 1) % n := ⟨_, rfl⟩
      have hi'n : i' < n := by rw [hi']; exact Nat.mod_lt _ (by omega)
      rw [← hi'] at nx
      have HI' : Hid ((i + 1) % ss.length = i') := Hid.mk (by rw [hi', HN.out])
      clear hf HF hg hgf hi'
      by_cases e0 : st = 0
      · have t0 : (((st : Nat) : Int) == 0) = true := by simp; omega
        have hf := HF2.out
        rw [if_pos e0] at hf
        have HF3 := Hid.mk hf
        clear hf HF2 e0
        cases sp with
        | none =>
          have r : spI none = -1 := rfl
          go_wp2_with fail
          go_ret2
          rw [HF3.out]
          exact ⟨rfl, rfl⟩
        | some q =>
          have r : spI (some q) = (q : Int) := rfl
          have r2 : ¬ (q : Int) < 0 := by omega
          go_wp2_with fail
          go_ret2
          rw [HF3.out]
          exact ⟨rfl, rfl⟩
      · have t0 : (((st : Nat) : Int) == 0) = false := by simp; omega
        have hf := HF2.out
        rw [if_neg e0] at hf
        have HF3 := Hid.mk hf
        clear hf HF2 e0
        by_cases e2 : st = 2
        · have t2 : (((st : Nat) : Int) == 2) = true := by simp; omega
          have hf := HF3.out
          rw [if_pos e2, HI'.out] at hf
          have HF4 := Hid.mk hf
          clear hf HF3 e2
          cases sp with
          | none =>
            have r : spI none = -1 := rfl
            go_wp2_with fail
            go_roundg f
            case measure => have := HGF.out; omega
            case rel => exact ⟨k + 1, i', some i, by have := HK.out; have := HGF.out; omega, hi'n, rfl, rfl, by go_num, by intro q hq; cases hq; exact hin, HF4.out, rfl⟩
          | some q =>
            have r : spI (some q) = (q : Int) := rfl
            have r2 : ¬ (q : Int) < 0 := by omega
            go_wp2_with fail
            go_roundg f
            case measure => have := HGF.out; omega
            case rel => exact ⟨k + 1, i', some q, by have := HK.out; have := HGF.out; omega, hi'n, rfl, rfl, by go_num, HSP.out, HF4.out, rfl⟩
        · have t2 : (((st : Nat) : Int) == 2) = false := by simp; omega
          have hf := HF3.out
          rw [if_neg e2] at hf
          have HF4 := Hid.mk hf
          clear hf HF3 e2
          by_cases eh : hash' = (H : Int)
          · have th : (hash' == (H : Int)) = true := by simpa using eh
            by_cases ek : key' = key
            · have tk : (key' == key) = true := by simpa using ek
              have hf := HF4.out
              rw [if_pos ⟨eh, ek⟩] at hf
              have HF5 := Hid.mk hf
              clear hf HF4 eh ek
              go_wp2_with fail
              go_ret2
              rw [HF5.out]
              exact ⟨rfl, rfl⟩
            · have tk : (key' == key) = false := by simpa using ek
              have hf := HF4.out
              rw [if_neg (fun h => ek h.2), HI'.out] at hf
              have HF5 := Hid.mk hf
              clear hf HF4 eh ek
              go_wp2_with fail
              go_roundg f
              case measure => have := HGF.out; omega
              case rel => exact ⟨k + 1, i', sp, by have := HK.out; have := HGF.out; omega, hi'n, rfl, rfl, by go_num, HSP.out, HF5.out, rfl⟩
          · have th : (hash' == (H : Int)) = false := by simpa using eh
            have hf := HF4.out
            rw [if_neg (fun h => eh h.1), HI'.out] at hf
            have HF5 := Hid.mk hf
            clear hf HF4 eh
            go_wp2_with fail
            go_roundg f
            case measure => have := HGF.out; omega
            case rel => exact ⟨k + 1, i', sp, by have := HK.out; have := HGF.out; omega, hi'n, rfl, rfl, by go_num, HSP.out, HF5.out, rfl⟩
    · have i1 : ¬ (k : Int) < n := by omega
      have hg0 : gk = 0 := by have := HK.out; omega
      have hf := HF.out
      rw [hg0, probe] at hf
      have HF2 := Hid.mk hf
      clear hf HF hg0
      go_wp2_with fail
      go_ret2
      rw [HF2.out]
      exact ⟨rfl, rfl⟩
end Go.Proofs.Qxb6500766a
