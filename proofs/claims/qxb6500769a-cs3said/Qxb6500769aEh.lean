/- The plain law: what Sum enciphers is what the definition enciphers. -/
import Derived.Test.Qxb6500769aEg
namespace Go.Proofs.Qxb6500769a
open Go.RowKit Go.Qm
set_option linter.unusedVariables false
set_option linter.unusedSimpArgs false

/-- RFC 4493 as modesm has it. -/
def nbl (m : List UInt8) : Nat := if m.length = 0 then 0 else (m.length + 15) / 16 - 1
def fill (r : List UInt8) : List UInt8 := r ++ [128] ++ List.replicate (15 - r.length) 0
def lastB (K1 K2 m : List UInt8) : List UInt8 :=
  if m.length ≠ 0 ∧ m.length % 16 = 0 then xorl (m.drop (16 * nbl m)) K1 else xorl (fill (m.drop (16 * nbl m))) K2
def cmac (f : List UInt8 → List UInt8) (m : List UInt8) : List UInt8 :=
  f (xorl (lastB (dbl (f Z16)) (dbl (dbl (f Z16))) m) (chn f m (nbl m)))
theorem xorl_get (a b : List UInt8) (i : Nat) (h : i < a.length) : (xorl a b).getD i 0 = a.getD i 0 ^^^ b.getD i 0 := by
  unfold xorl
  rw [List.getD_eq_getElem?_getD, List.getElem?_map, List.getElem?_range h]
  rfl
theorem xork_get (a b : List UInt8) (k i : Nat) (h : i < k) : (xork a b k).getD i 0 = a.getD i 0 ^^^ b.getD i 0 := by
  unfold xork
  rw [List.getD_eq_getElem?_getD, List.getElem?_map, List.getElem?_range h]
  rfl
theorem getD_app (a b : List UInt8) (i : Nat) (h : i < a.length) : (a ++ b).getD i 0 = a.getD i 0 := by
  rw [List.getD_eq_getElem?_getD, List.getElem?_append_left h, List.getD_eq_getElem?_getD]
theorem getD_appR (a b : List UInt8) (i : Nat) (h : a.length ≤ i) : (a ++ b).getD i 0 = b.getD (i - a.length) 0 := by
  rw [List.getD_eq_getElem?_getD, List.getElem?_append_right h, List.getD_eq_getElem?_getD]
theorem xk_get (L H : List UInt8) (k i : Nat) (hk : k ≤ L.length) : (xk L H k).getD i 0 = if i < k then L.getD i 0 ^^^ H.getD i 0 else L.getD i 0 := by
  rw [xk_eq L H k hk]
  by_cases h : i < k
  · rw [if_pos h, getD_app _ _ _ (by rw [xork_length]; exact h), xork_get _ _ _ _ h]
  · rw [if_neg h, getD_appR _ _ _ (by rw [xork_length]; omega), xork_length, List.getD_eq_getElem?_getD, List.getElem?_drop, List.getD_eq_getElem?_getD, show k + (i - k) = i by omega]
theorem ext16 {a b : List UInt8} (ha : a.length = 16) (hb : b.length = 16) (h : ∀ i, i < 16 → a.getD i 0 = b.getD i 0) : a = b := by
  apply List.ext_getElem (by omega)
  intro i h1 h2
  have := h i (by omega)
  rw [List.getD_eq_getElem?_getD, List.getElem?_eq_getElem h1, List.getD_eq_getElem?_getD, List.getElem?_eq_getElem h2] at this
  exact this
theorem fill_length (r : List UInt8) (h : r.length ≤ 15) : (fill r).length = 16 := by simp [fill]; omega
theorem fill_get (r : List UInt8) (h : r.length ≤ 15) (i : Nat) (hi : i < 16) : (fill r).getD i 0 = if i < r.length then r.getD i 0 else if i = r.length then 128 else 0 := by
  unfold fill
  by_cases h1 : i < r.length
  · rw [if_pos h1, List.append_assoc, getD_app _ _ _ h1]
  · rw [if_neg h1, List.append_assoc, getD_appR _ _ _ (by omega)]
    by_cases h2 : i = r.length
    · rw [if_pos h2, h2, Nat.sub_self]; rfl
    · rw [if_neg h2]
      obtain ⟨k, hk⟩ : ∃ k, i - r.length = k + 1 := ⟨i - r.length - 1, by omega⟩
      rw [hk, List.singleton_append, List.getD_cons_succ, List.getD_eq_getElem?_getD, List.getElem?_replicate]
      split <;> rfl
theorem xor_assoc3 (a b c : UInt8) : a ^^^ b ^^^ c = b ^^^ c ^^^ a := by
  rw [UInt8.xor_assoc, UInt8.xor_comm]
theorem sum_law {f : List UInt8 → List UInt8} {m X H K1 K2 : List UInt8} {n : Nat} (hf : ∀ l, l.length = 16 → (f l).length = 16) (h : St f m X H n) (h1 : K1.length = 16) (h2 : K2.length = 16) : sumIn K1 K2 X H n = xorl (lastB K1 K2 m) (chn f m (nbl m)) := by
  obtain ⟨j, ⟨hm, hn, hX, hH, hHl⟩, hj⟩ := h
  have hXl : X.length = 16 := by rw [hX]; exact chn_length hf _ _
  have hnb : nbl m = j := by
    unfold nbl
    by_cases h0 : m.length = 0
    · rw [if_pos h0]; omega
    · rw [if_neg h0]
      have : n ≠ 0 := by intro e; have := hj e; omega
      omega
  rw [hnb, ← hX]
  have hdl : (m.drop (16 * j)).length = n := by rw [List.length_drop]; omega
  by_cases h16 : n = 16
  · subst h16
    have hH2 : m.drop (16 * j) = H := by rw [← hH, List.take_of_length_le (by omega)]
    unfold lastB sumIn
    rw [if_neg (show ¬ 16 < 16 by omega), if_pos (show m.length ≠ 0 ∧ m.length % 16 = 0 by omega), hnb, hH2]
    have hl0 : lst0 X 16 = X := by unfold lst0; rw [if_neg (by omega)]
    rw [hl0]
    apply ext16
    · rw [xk_length, xk_length]; exact hXl
    · rw [xorl_length, xorl_length]; exact hHl
    · intro i hi
      rw [xk_get _ _ _ _ (by rw [xk_length]; omega), if_pos hi, xk_get _ _ _ _ (by omega), if_pos hi, xorl_get _ _ _ (by rw [xorl_length]; omega), xorl_get _ _ _ (by omega)]
      exact xor_assoc3 _ _ _
  · have hlt : n < 16 := by omega
    have hwh : ¬ (m.length ≠ 0 ∧ m.length % 16 = 0) := by
      rintro ⟨e1, e2⟩
      have : n = 0 := by omega
      have := hj this
      omega
    unfold lastB sumIn
    rw [if_pos hlt, if_neg hwh, hnb]
    have hfl := fill_length (m.drop (16 * j)) (by omega)
    have hl0l : (lst0 X n).length = 16 := by rw [lst0_length]; exact hXl
    have hl0 : lst0 X n = X.set n (X.getD n 0 ^^^ 128) := by unfold lst0; rw [if_pos hlt]
    apply ext16
    · rw [xk_length, xk_length]; exact hl0l
    · rw [xorl_length, xorl_length]; exact hfl
    · intro i hi
      rw [xk_get _ _ _ _ (by rw [xk_length]; omega), if_pos hi, xk_get _ _ _ _ (by omega), xorl_get _ _ _ (by rw [xorl_length]; omega), xorl_get _ _ _ (by omega), fill_get _ (by omega) i hi, hdl]
      by_cases hin : i < n
      · rw [if_pos hin, if_pos hin, ← hH]
        have e1 : (lst0 X n).getD i 0 = X.getD i 0 := by
          rw [hl0, List.getD_eq_getElem?_getD, List.getElem?_set_ne (by omega), List.getD_eq_getElem?_getD]
        have e2 : (H.take n).getD i 0 = H.getD i 0 := by
          rw [List.getD_eq_getElem?_getD, List.getElem?_take, if_pos hin, List.getD_eq_getElem?_getD]
        rw [e1, e2]
        exact xor_assoc3 _ _ _
      · rw [if_neg hin, if_neg hin]
        by_cases hie : i = n
        · rw [if_pos hie, hie, hl0]
          have e1 : (X.set n (X.getD n 0 ^^^ 128)).getD n 0 = X.getD n 0 ^^^ 128 := by
            rw [List.getD_eq_getElem?_getD, List.getElem?_set_self (by omega)]; rfl
          rw [e1]
          exact xor_assoc3 _ _ _
        · rw [if_neg hie]
          have e1 : (lst0 X n).getD i 0 = X.getD i 0 := by
            rw [hl0, List.getD_eq_getElem?_getD, List.getElem?_set_ne (by omega), List.getD_eq_getElem?_getD]
          rw [e1, UInt8.zero_xor, UInt8.xor_comm]
theorem cmac_law {f : List UInt8 → List UInt8} {m X H : List UInt8} {n : Nat} (hf : ∀ l, l.length = 16 → (f l).length = 16) (h : St f m X H n) : f (sumIn (dbl (f Z16)) (dbl (dbl (f Z16))) X H n) = cmac f m := by
  rw [sum_law hf h (dbl_length _) (dbl_length _)]
  rfl
end Go.Proofs.Qxb6500769a
