/- The running state of a CMAC: the plain law of Write. -/
import Derived.Test.Qxb6500769aEd
namespace Go.Proofs.Qxb6500769a
open Go.RowKit Go.Qm
set_option linter.unusedVariables false
set_option linter.unusedSimpArgs false

/-- The chaining value after j blocks of m. -/
def chn (f : List UInt8 → List UInt8) (m : List UInt8) : Nat → List UInt8
  | 0 => Z16
  | j + 1 => f (xorl (chn f m j) ((m.drop (16 * j)).take 16))
theorem chn_length {f : List UInt8 → List UInt8} (hf : ∀ l, l.length = 16 → (f l).length = 16) (m : List UInt8) : ∀ j, (chn f m j).length = 16
  | 0 => Z16_length
  | j + 1 => hf _ (by rw [xorl_length]; exact chn_length hf m j)
theorem chn_append (f : List UInt8 → List UInt8) (m t : List UInt8) : ∀ j, 16 * j ≤ m.length → chn f (m ++ t) j = chn f m j
  | 0, _ => rfl
  | j + 1, h => by
    rw [chn, chn, chn_append f m t j (by omega), List.drop_append_of_le_length (by omega), List.take_append_of_le_length (by rw [List.length_drop]; omega)]
/-- n octets of H are held back, X is the chain before them; n may be 16. -/
def StB (f : List UInt8 → List UInt8) (m X H : List UInt8) (n j : Nat) : Prop :=
  m.length = 16 * j + n ∧ n ≤ 16 ∧ X = chn f m j ∧ H.take n = m.drop (16 * j) ∧ H.length = 16
def St (f : List UInt8 → List UInt8) (m X H : List UInt8) (n : Nat) : Prop := ∃ j, StB f m X H n j ∧ (n = 0 → j = 0)
theorem St.zero (f : List UInt8 → List UInt8) : St f [] Z16 Z16 0 := ⟨0, ⟨rfl, by omega, rfl, by simp, Z16_length⟩, fun _ => rfl⟩
theorem StB.full {f : List UInt8 → List UInt8} {m X H : List UInt8} {j : Nat} (h : StB f m X H 16 j) : StB f m (f (xorl X H)) H 0 (j + 1) := by
  obtain ⟨h1, h2, h3, h4, h5⟩ := h
  refine ⟨by omega, by omega, ?_, ?_, h5⟩
  · rw [List.take_of_length_le (by omega)] at h4
    rw [chn, ← h3, ← h4, List.take_of_length_le (by omega)]
  · rw [List.take_zero, List.drop_of_length_le (by omega)]
theorem StB.take {f : List UInt8 → List UInt8} {m X H r : List UInt8} {n j k : Nat} (h : StB f m X H n j) (hk : k ≤ r.length) (hn : n + k ≤ 16) (hk0 : k ≠ 0) : St f (m ++ r.take k) X (H.take n ++ r.take k ++ H.drop (n + k)) (n + k) := by
  obtain ⟨h1, h2, h3, h4, h5⟩ := h
  have hl : (r.take k).length = k := by rw [List.length_take]; omega
  refine ⟨j, ⟨by rw [List.length_append, hl]; omega, hn, ?_, ?_, ?_⟩, by omega⟩
  · rw [chn_append f m _ j (by omega)]; exact h3
  · rw [h4, List.drop_append_of_le_length (by omega)]
    rw [List.take_append_of_le_length (by rw [List.length_append, List.length_drop, hl]; omega), List.take_of_length_le (by rw [List.length_append, List.length_drop, hl]; omega)]
  · simp only [List.length_append, List.length_take, List.length_drop]; omega
/-- x ^= held, octet by octet. -/
def xk (X H : List UInt8) : Nat → List UInt8
  | 0 => X
  | i + 1 => (xk X H i).set i ((xk X H i).getD i 0 ^^^ H.getD i 0)
theorem xk_length (X H : List UInt8) : ∀ k, (xk X H k).length = X.length
  | 0 => rfl
  | k + 1 => by simp [xk, xk_length X H k]
theorem xk_eq (X H : List UInt8) : ∀ k, k ≤ X.length → xk X H k = xork X H k ++ X.drop k
  | 0, _ => by simp [xk, xork]
  | k + 1, h => by
    rw [xk, xk_eq X H k (by omega), xork_succ]
    have hl := xork_length X H k
    have e1 : (xork X H k ++ X.drop k).getD k 0 = X.getD k 0 := by
      rw [List.getD_eq_getElem?_getD, List.getElem?_append_right (by omega), hl, Nat.sub_self, List.getElem?_drop, Nat.add_zero, List.getD_eq_getElem?_getD]
    rw [e1, List.set_append_right _ _ (by omega), hl, Nat.sub_self, List.drop_eq_getElem_cons (by omega : k < X.length), List.set_cons_zero, List.append_assoc]
    rfl
theorem xk_all (X H : List UInt8) (h : X.length = 16) (h' : H.length = 16) : xk X H 16 = xorl X H := by
  rw [xk_eq X H 16 (by omega), List.drop_of_length_le (by omega), List.append_nil]
  unfold xork xorl
  rw [h]
section
variable {al : Int} {kv : Value} {K1 K2 X H : List UInt8} {n : Nat}
theorem CM_n (h1 : K1.length = 16) (h2 : K2.length = 16) (h3 : X.length = 16) (h4 : H.length = 16) : (CM al kv K1 K2 X H n)[66]? = some (.int .i64 n) := by
  rw [CM_h, List.getElem?_append_right (by simp [h1, h2, h3, h4])]
  simp [h1, h2, h3, h4]
theorem CM_setn (h1 : K1.length = 16) (h2 : K2.length = 16) (h3 : X.length = 16) (h4 : H.length = 16) (k : Nat) : (CM al kv K1 K2 X H n).set 66 (.int .i64 k) = CM al kv K1 K2 X H k := by
  rw [CM_h, CM_h, List.set_append_right _ _ (by simp [h1, h2, h3, h4])]
  simp [h1, h2, h3, h4]
theorem CM_xi (h1 : K1.length = 16) (h2 : K2.length = 16) (h3 : X.length = 16) {i : Nat} (hi : i < 16) : (CM al kv K1 K2 X H n)[34 + i]? = some (.int .u8 (X.getD i 0).toNat) := by
  rw [CM_x, List.append_assoc, List.getElem?_append_right (by simp [h1, h2]), List.getElem?_append_left (by simp [h1, h2, h3]; omega)]
  simp [h1, h2, h3, hi, cb]
theorem CM_hi (h1 : K1.length = 16) (h2 : K2.length = 16) (h3 : X.length = 16) (h4 : H.length = 16) {i : Nat} (hi : i < 16) : (CM al kv K1 K2 X H n)[50 + i]? = some (.int .u8 (H.getD i 0).toNat) := by
  rw [CM_h, List.append_assoc, List.getElem?_append_right (by simp [h1, h2, h3]), List.getElem?_append_left (by simp [h1, h2, h3, h4]; omega)]
  simp [h1, h2, h3, h4, hi, cb]
theorem CM_k1i (h1 : K1.length = 16) {i : Nat} (hi : i < 16) : (CM al kv K1 K2 X H n)[2 + i]? = some (.int .u8 (K1.getD i 0).toNat) := by
  rw [CM_k1, List.append_assoc, List.getElem?_append_right (by simp), List.getElem?_append_left (by simp [h1]; omega)]
  simp [h1, hi, cb]
theorem CM_k2i (h1 : K1.length = 16) (h2 : K2.length = 16) {i : Nat} (hi : i < 16) : (CM al kv K1 K2 X H n)[18 + i]? = some (.int .u8 (K2.getD i 0).toNat) := by
  rw [CM_k2, List.append_assoc, List.getElem?_append_right (by simp [h1]), List.getElem?_append_left (by simp [h1, h2]; omega)]
  simp [h1, h2, hi, cb]
theorem CM_setx (h1 : K1.length = 16) (h2 : K2.length = 16) (h3 : X.length = 16) {i : Nat} (hi : i < 16) (z : UInt8) : (CM al kv K1 K2 X H n).set (34 + i) (.int .u8 z.toNat) = CM al kv K1 K2 (X.set i z) H n := by
  rw [CM_x, CM_x, List.append_assoc, List.set_append_right _ _ (by simp [h1, h2]), List.set_append_left _ _ (by simp [h1, h2, h3]; omega)]
  simp [h1, h2, List.map_set, cb]
end
end Go.Proofs.Qxb6500769a
