/- The plain law of bit rotation: no Go. -/
import Derived.Test.Qxb6500770aT5
namespace Go.Proofs.Qxb6500770a
open Go.Qm

theorem rotO_get (l : List UInt8) (q : Nat) (hq : q ≤ l.length) (i : Nat) (hi : i < l.length) : (rotO l q)[i]? = l[(l.length - q + i) % l.length]? := by
  unfold rotO
  by_cases h : i < q
  · rw [List.getElem?_append_left (by simp; omega), List.getElem?_drop, Nat.mod_eq_of_lt (by omega)]
  · rw [List.getElem?_append_right (by simp; omega)]
    simp only [List.length_drop]
    rw [List.getElem?_take, if_pos (by omega), show l.length - q + i = (i - q) + l.length by omega, Nat.add_mod_right, Nat.mod_eq_of_lt (by omega)]
    congr 1
    omega

theorem pass_get (r : Nat) : ∀ (c : UInt8) (l : List UInt8) (i : Nat) (hi : i < l.length), (pass r c l)[i]? = some (shr8 l[i] r ||| (if h : i = 0 then c else shl8 (l[i - 1]'(by omega)) (8 - r)))
  | c, x :: t, 0, _ => by simp [pass]
  | c, x :: t, i + 1, hi => by
    have hi' : i < t.length := by simpa using hi
    simp only [pass, List.getElem?_cons_succ]
    rw [pass_get r (shl8 x (8 - r)) t i hi']
    cases i with
    | zero => simp
    | succ j => simp

theorem shl8_eight (x : UInt8) : shl8 x 8 = 0 := by
  apply UInt8.toNat_inj.1
  show x.toNat * 2 ^ 8 % 2 ^ 8 = 0
  exact Nat.mul_mod_left _ _
theorem shr8_zero (x : UInt8) : shr8 x 0 = x := by
  apply UInt8.toNat_inj.1
  show x.toNat / 2 ^ 0 % 2 ^ 8 = x.toNat
  rw [Nat.pow_zero, Nat.div_one]
  exact Nat.mod_eq_of_lt (UInt8.toNat_lt x)
theorem or_zero8 (x : UInt8) : x ||| 0 = x := by
  apply UInt8.toNat_inj.1
  rw [UInt8.toNat_or]; simp

theorem rd_zero (l : List UInt8) (q i : Nat) : rd l q 0 i = l.getD ((l.length - q + i) % l.length) 0 := by
  unfold rd
  rw [shr8_zero, shl8_eight, or_zero8]

theorem getD_eq {l : List UInt8} {k : Nat} (h : k < l.length) : l[k]? = some (l.getD k 0) := by simp [List.getD, h]

/-- The two forms agree. -/
theorem bitR_eq_rd (l : List UInt8) (s : Nat) (hs : s < l.length * 8) : bitR l s = (List.range l.length).map (rd l (s / 8) (s % 8)) := by
  have hq : s / 8 < l.length := by omega
  apply List.ext_getElem?
  intro i
  by_cases hi : i < l.length
  · have hm : (l.length - s / 8 + i) % l.length < l.length := Nat.mod_lt _ (by omega)
    rw [List.getElem?_map, List.getElem?_range hi, Option.map_some]
    unfold bitR
    split
    · rename_i h0
      rw [rotO_get l _ (by omega) i hi, h0, rd_zero, getD_eq hm]
    · have hlen := rotO_length l (s / 8)
      rw [pass_get _ _ _ i (by rw [hlen]; exact hi)]
      congr 1
      have g : ∀ j (hj : j < (rotO l (s / 8)).length), (rotO l (s / 8))[j] = l.getD ((l.length - s / 8 + j) % l.length) 0 := fun j hj => by
        rw [hlen] at hj
        have h1 := rotO_get l (s / 8) (by omega) j hj
        rw [getD_eq (Nat.mod_lt _ (by omega))] at h1
        exact (List.getElem?_eq_some_iff.1 h1).2
      unfold rd
      rw [g i]
      congr 1
      by_cases h0 : i = 0
      · subst h0
        rw [dif_pos rfl, getLastD_of_get hlen (by rw [hlen]; omega), g]
        rfl
      · rw [dif_neg h0, g]
        congr 2
        rw [show l.length - s / 8 + i + (l.length - 1) = l.length - s / 8 + (i - 1) + l.length by omega, Nat.add_mod_right]
  · rw [List.getElem?_eq_none (by rw [bitR_length]; omega), List.getElem?_eq_none (by simp; omega)]

theorem ofNat_toNat (n : Nat) : (UInt8.ofNat n).toNat = n % 2 ^ 8 := rfl
theorem shr8_or (x y : UInt8) (s : Nat) : shr8 (x ||| y) s = (shr8 x s ||| shr8 y s) := by
  apply UInt8.toNat_inj.1
  unfold shr8
  rw [UInt8.toNat_or, ofNat_toNat, UInt8.toNat_or, ofNat_toNat, ofNat_toNat, ← Nat.shiftRight_eq_div_pow, ← Nat.shiftRight_eq_div_pow, ← Nat.shiftRight_eq_div_pow, Nat.shiftRight_or_distrib, Nat.or_mod_two_pow]
theorem shl8_or (x y : UInt8) (s : Nat) : shl8 (x ||| y) s = (shl8 x s ||| shl8 y s) := by
  apply UInt8.toNat_inj.1
  unfold shl8
  rw [UInt8.toNat_or, ofNat_toNat, UInt8.toNat_or, ofNat_toNat, ofNat_toNat, ← Nat.shiftLeft_eq, ← Nat.shiftLeft_eq, ← Nat.shiftLeft_eq, Nat.shiftLeft_or_distrib, Nat.or_mod_two_pow]
theorem one_octet : ∀ r : Fin 8, ∀ n : Fin 256, r.val ≠ 0 → shr8 (shr8 (UInt8.ofNat n.val) r.val) (8 - r.val) = 0 ∧ shl8 (shl8 (UInt8.ofNat n.val) (8 - r.val)) r.val = 0 ∧
    (shr8 (shl8 (UInt8.ofNat n.val) (8 - r.val)) (8 - r.val) ||| shl8 (shr8 (UInt8.ofNat n.val) r.val) r.val) = UInt8.ofNat n.val := by decide +kernel
theorem octet_back (r : Nat) (h0 : r ≠ 0) (h8 : r < 8) (a b c : UInt8) :
    (shr8 (shr8 a r ||| shl8 b (8 - r)) (8 - r) ||| shl8 (shr8 b r ||| shl8 c (8 - r)) r) = b := by
  have k : ∀ x : UInt8, UInt8.ofNat (⟨x.toNat, UInt8.toNat_lt x⟩ : Fin 256).val = x := fun x => UInt8.ofNat_toNat
  have ha := (one_octet ⟨r, h8⟩ ⟨a.toNat, UInt8.toNat_lt a⟩ h0).1
  have hb := (one_octet ⟨r, h8⟩ ⟨b.toNat, UInt8.toNat_lt b⟩ h0).2.2
  have hc := (one_octet ⟨r, h8⟩ ⟨c.toNat, UInt8.toNat_lt c⟩ h0).2.1
  rw [k] at ha hb hc
  simp only at ha hb hc
  rw [shr8_or, shl8_or, ha, hc, or_zero8]
  have z : ∀ x : UInt8, (0 : UInt8) ||| x = x := fun x => by
    apply UInt8.toNat_inj.1
    rw [UInt8.toNat_or]; simp
  rw [z, hb]

theorem rd_get (l : List UInt8) (q r i : Nat) (hi : i < l.length) : ((List.range l.length).map (rd l q r)).getD i 0 = rd l q r i := by
  simp [List.getD, hi]

theorem addmod (a b n : Nat) : (a + b % n) % n = (a + b) % n := by simp

/-- To rotate by s and then by the length in bits less s gives the string back. -/
theorem bitR_back (l : List UInt8) (s : Nat) (hs : s < l.length * 8) : bitR (bitR l s) ((l.length * 8 - s) % (l.length * 8)) = l := by
  have hpos : 0 < l.length := by omega
  have hlen : (bitR l s).length = l.length := bitR_length l s
  have h2 : (l.length * 8 - s) % (l.length * 8) < l.length * 8 := Nat.mod_lt _ (by omega)
  rw [bitR_eq_rd _ _ (by rw [hlen]; exact h2), hlen, bitR_eq_rd l s hs]
  apply List.ext_getElem?
  intro i
  by_cases hi : i < l.length
  · rw [List.getElem?_map, List.getElem?_range hi, Option.map_some, getD_eq hi]
    congr 1
    generalize hL : (List.range l.length).map (rd l (s / 8) (s % 8)) = L1
    have hLl : L1.length = l.length := by rw [← hL]; simp
    have rg : ∀ j, j < l.length → L1.getD j 0 = rd l (s / 8) (s % 8) j := fun j hj => by rw [← hL]; exact rd_get l _ _ j hj
    unfold rd
    rw [hLl]
    by_cases hr : s % 8 = 0
    · have e : (l.length * 8 - s) % (l.length * 8) % 8 = 0 := by
        rw [Nat.mod_mod_of_dvd _ ⟨l.length, Nat.mul_comm _ _⟩]; omega
      rw [e, shr8_zero, shl8_eight, or_zero8, rg _ (Nat.mod_lt _ hpos), hr, rd_zero, addmod]
      congr 1
      by_cases h0 : s = 0
      · subst h0
        have z : (l.length * 8 - 0) % (l.length * 8) = 0 := by rw [Nat.sub_zero, Nat.mod_self]
        rw [z, Nat.zero_div, Nat.sub_zero, Nat.add_mod_left, Nat.add_mod_left, Nat.mod_eq_of_lt hi]
      · rw [Nat.mod_eq_of_lt (show l.length * 8 - s < l.length * 8 by omega), show l.length - s / 8 + (l.length - (l.length * 8 - s) / 8 + i) = i + l.length by omega, Nat.add_mod_right, Nat.mod_eq_of_lt hi]
    · have e0 : (l.length * 8 - s) % (l.length * 8) = l.length * 8 - s := Nat.mod_eq_of_lt (by omega)
      have e1 : (l.length * 8 - s) % 8 = 8 - s % 8 := by omega
      have e2 : (l.length * 8 - s) / 8 = l.length - s / 8 - 1 := by omega
      rw [e0, e1, e2, rg _ (Nat.mod_lt _ hpos), rg _ (Nat.mod_lt _ hpos)]
      unfold rd
      have i1 : (l.length - s / 8 + (l.length - (l.length - s / 8 - 1) + i) % l.length + (l.length - 1)) % l.length = i := by
        rw [show l.length - s / 8 + (l.length - (l.length - s / 8 - 1) + i) % l.length + (l.length - 1) = (l.length - s / 8 + (l.length - 1)) + (l.length - (l.length - s / 8 - 1) + i) % l.length by omega, addmod,
          show l.length - s / 8 + (l.length - 1) + (l.length - (l.length - s / 8 - 1) + i) = i + l.length + l.length by omega, Nat.add_mod_right, Nat.add_mod_right, Nat.mod_eq_of_lt hi]
      have i2 : (l.length - s / 8 + (l.length - (l.length - s / 8 - 1) + i + (l.length - 1)) % l.length) % l.length = i := by
        rw [addmod, show l.length - s / 8 + (l.length - (l.length - s / 8 - 1) + i + (l.length - 1)) = i + l.length + l.length by omega, Nat.add_mod_right, Nat.add_mod_right, Nat.mod_eq_of_lt hi]
      rw [i1, i2, show 8 - (8 - s % 8) = s % 8 by omega]
      exact octet_back _ hr (by omega) _ _ _
  · rw [List.getElem?_eq_none (by simp; omega), List.getElem?_eq_none (by omega)]

end Go.Proofs.Qxb6500770a
