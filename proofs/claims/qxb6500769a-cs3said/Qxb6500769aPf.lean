/- AES: decryption undoes encryption, and the other way. -/
import Derived.Test.Qxb6500769aPe
namespace Go.Proofs.Qxb6500769a
open Go.RowKit Go.Qm
set_option linter.unusedVariables false
set_option linter.unusedSimpArgs false
theorem xorl_xorl (a b : List UInt8) : xorl (xorl a b) b = a := by
  apply List.ext_getElem?
  intro i
  unfold xorl
  rw [List.length_map, List.length_range, List.getElem?_map]
  by_cases h : i < a.length
  · rw [List.getElem?_range h, List.getElem?_eq_getElem h]
    simp [List.getElem?_map, List.getElem?_range h, List.getElem?_eq_getElem h, UInt8.xor_assoc]
  · rw [List.getElem?_eq_none (by simp; omega), List.getElem?_eq_none (by omega)]
    rfl
theorem aesDK_undo (ws blk : List UInt8) (rd : Nat) (hb : blk.length = 16) : ∀ k, k < rd → aesDK ws rd (aesK ws rd blk rd) k = srk (sbk (aesK ws rd blk (rd - 1 - k)) 16) 16
  | 0, h => by
    obtain ⟨n, rfl⟩ : ∃ n, rd = n + 1 := ⟨rd - 1, by omega⟩
    rw [aesDK, aesK, aesR, if_neg (by omega), xorl_xorl, Nat.sub_zero, Nat.add_sub_cancel]
  | k + 1, h => by
    rw [aesDK, aesDK_undo ws blk rd hb k (by omega)]
    have hl := fun j => aesK_length ws rd blk hb j
    obtain ⟨r, hr⟩ : ∃ r, rd - 1 - k = r + 1 := ⟨rd - 1 - k - 1, by omega⟩
    rw [show rd - 1 - (k + 1) = r by omega, hr, aesD, if_pos (by omega), aesX, srb_srk _ (by rw [sbk_length]; exact hl _), isbk_sbk _ (hl _), aesK, aesR, if_pos (by omega), xorl_xorl, mck_inv _ (by rw [srk_length, sbk_length]; exact hl _)]
theorem aesd_aes (key l : List UInt8) (h : l.length = 16) : aesd key (aes key l) = l := by
  unfold aesd aes
  have hl := fun j => aesK_length (expd key) (key.length / 4 + 6) l h j
  rw [show aesDK (expd key) (key.length / 4 + 6) (aesK (expd key) (key.length / 4 + 6) l (key.length / 4 + 6)) (key.length / 4 + 6) = aesD (expd key) (aesDK (expd key) (key.length / 4 + 6) (aesK (expd key) (key.length / 4 + 6) l (key.length / 4 + 6)) (key.length / 4 + 5)) (key.length / 4 + 6 - 1 - (key.length / 4 + 5)) from rfl]
  rw [aesDK_undo _ _ _ h _ (by omega), show key.length / 4 + 6 - 1 - (key.length / 4 + 5) = 0 by omega, aesD, if_neg (by omega), aesX, srb_srk _ (by rw [sbk_length]; exact hl _), isbk_sbk _ (hl _), aesK, Nat.mul_zero, xorl_xorl]
theorem aesK_undo (ws blk : List UInt8) (rd : Nat) (hb : blk.length = 16) : ∀ k, k < rd → aesK ws rd (aesDK ws rd blk rd) k = isbk (srb (aesDK ws rd blk (rd - 1 - k)) 16) 16
  | 0, h => by
    obtain ⟨n, rfl⟩ : ∃ n, rd = n + 1 := ⟨rd - 1, by omega⟩
    rw [aesK, aesDK, show n + 1 - 1 - n = 0 by omega, aesD, if_neg (by omega), aesX, Nat.mul_zero, xorl_xorl, Nat.sub_zero, Nat.add_sub_cancel]
  | k + 1, h => by
    rw [aesK, aesK_undo ws blk rd hb k (by omega)]
    have hl := fun j => aesDK_length ws rd blk hb j
    obtain ⟨r, hr⟩ : ∃ r, rd - 1 - k = r + 1 := ⟨rd - 1 - k - 1, by omega⟩
    rw [aesR, if_pos (by omega), sbk_isbk _ (by rw [srb_length]; exact hl _), srk_srb _ (hl _), hr, aesDK, show rd - 1 - r = k + 1 by omega, aesD, if_pos (by omega), mck_vni _ (by rw [aesX, xorl_length, isbk_length, srb_length]; exact hl _), aesX, xorl_xorl, show rd - 1 - (k + 1) = r by omega]
theorem aes_aesd (key l : List UInt8) (h : l.length = 16) : aes key (aesd key l) = l := by
  unfold aesd aes
  have hl := fun j => aesDK_length (expd key) (key.length / 4 + 6) l h j
  rw [show aesK (expd key) (key.length / 4 + 6) (aesDK (expd key) (key.length / 4 + 6) l (key.length / 4 + 6)) (key.length / 4 + 6) = aesR (expd key) (key.length / 4 + 6) (aesK (expd key) (key.length / 4 + 6) (aesDK (expd key) (key.length / 4 + 6) l (key.length / 4 + 6)) (key.length / 4 + 5)) (key.length / 4 + 6) from rfl]
  rw [aesK_undo _ _ _ h _ (by omega), aesR, if_neg (by omega), sbk_isbk _ (by rw [srb_length]; exact hl _), srk_srb _ (hl _), show key.length / 4 + 6 - 1 - (key.length / 4 + 5) = 0 by omega, aesDK, xorl_xorl]
end Go.Proofs.Qxb6500769a
