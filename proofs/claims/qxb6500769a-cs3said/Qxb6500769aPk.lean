/- CBC and CBC-CS3 on lists: decryption undoes encryption, and the other way. -/
import Derived.Test.Qxb6500769aDo
namespace Go.Proofs.Qxb6500769a
open Go.RowKit Go.Qm
set_option linter.unusedVariables false
set_option linter.unusedSimpArgs false
set_option linter.unusedSectionVars false
theorem xorl_two (a b : List UInt8) : xorl (xorl a b) b = a := by
  apply List.ext_getElem?
  intro i
  unfold xorl
  rw [List.length_map, List.length_range, List.getElem?_map]
  by_cases h : i < a.length
  · rw [List.getElem?_range h, List.getElem?_eq_getElem h]
    simp [List.getElem?_map, List.getElem?_range h, List.getElem?_eq_getElem h, UInt8.xor_assoc]
  · rw [List.getElem?_eq_none (by simp; omega), List.getElem?_eq_none (by omega)]
    rfl
theorem xorl_getD (a b : List UInt8) (i : Nat) (h : i < a.length) : (xorl a b)[i]? = some (a.getD i 0 ^^^ b.getD i 0) := by
  unfold xorl
  rw [List.getElem?_map, List.getElem?_range h]
  rfl
def ctsT (f : List UInt8 → List UInt8) (b : Nat) (iv src : List UInt8) (q tl : Nat) : List UInt8 := xorl (src.drop (b * (q + 1)) ++ List.replicate (b - tl) 0) (cbp f b iv src (q + 1))
def ctsE (f : List UInt8 → List UInt8) (b : Nat) (iv src : List UInt8) (q tl : Nat) : List UInt8 := cbcE f b iv src q ++ (f (ctsT f b iv src q tl) ++ (cbp f b iv src (q + 1)).take tl)
def ctsO (g : List UInt8 → List UInt8) (b : Nat) (src : List UInt8) (q : Nat) : List UInt8 := g ((src.drop (b * q)).take b)
def ctsS (g : List UInt8 → List UInt8) (b : Nat) (src : List UInt8) (q tl : Nat) : List UInt8 := src.drop (b * (q + 1)) ++ (ctsO g b src q).drop tl
def ctsD (g : List UInt8 → List UInt8) (b : Nat) (iv src : List UInt8) (q tl : Nat) : List UInt8 := cbcD g b iv src q ++ (xorl (g (ctsS g b src q tl)) (cdp b iv src q) ++ xorl (src.drop (b * (q + 1))) (ctsO g b src q))
section
variable {f g : List UInt8 → List UInt8} {b : Nat} {iv src : List UInt8} (hf : ∀ l, l.length = b → (f l).length = b) (hg : ∀ l, l.length = b → (g l).length = b) (hi : iv.length = b)
include hf hi
theorem blkE : ∀ m (hs : b * m ≤ src.length) (r : List UInt8) k, k < m → ((cbcE f b iv src m ++ r).drop (b * k)).take b = cbp f b iv src (k + 1)
  | 0, _, _, k, h => by omega
  | m + 1, hs, r, k, h => by
    have hm : b * m ≤ src.length := Nat.le_trans (Nat.mul_le_mul_left b (Nat.le_succ m)) hs
    rw [cbcE, List.append_assoc]
    by_cases hk : k < m
    · exact blkE m hm _ k hk
    · have e : k = m := by omega
      subst e
      rw [List.drop_left' (cbcE_length hf hi hm k (Nat.le_refl _)), List.take_left' (cbp_length hf hi hs (k + 1) (Nat.le_refl _))]
theorem cdpE (m : Nat) (hs : b * m ≤ src.length) (r : List UInt8) : ∀ k, k ≤ m → cdp b iv (cbcE f b iv src m ++ r) k = cbp f b iv src k
  | 0, _ => rfl
  | k + 1, h => by rw [cdp]; exact blkE hf hi m hs r k h
theorem cbcD_E (hgf : ∀ l, l.length = b → g (f l) = l) (m : Nat) (hs : b * m ≤ src.length) (r : List UInt8) : ∀ k, k ≤ m → cbcD g b iv (cbcE f b iv src m ++ r) k = src.take (b * k)
  | 0, _ => rfl
  | k + 1, h => by
    rw [cbcD, cbcD_E hgf m hs r k (by omega), blkE hf hi m hs r k h, cdpE hf hi m hs r k (by omega), cbp, hgf _ (by rw [xorl_length]; exact blk_length hs h), xorl_two, Nat.mul_add, Nat.mul_one, List.take_add]
omit hf
include hg
theorem blkD : ∀ m (hs : b * m ≤ src.length) (r : List UInt8) k, k < m → ((cbcD g b iv src m ++ r).drop (b * k)).take b = xorl (g ((src.drop (b * k)).take b)) (cdp b iv src k)
  | 0, _, _, k, h => by omega
  | m + 1, hs, r, k, h => by
    have hm : b * m ≤ src.length := Nat.le_trans (Nat.mul_le_mul_left b (Nat.le_succ m)) hs
    rw [cbcD, List.append_assoc]
    by_cases hk : k < m
    · exact blkD m hm _ k hk
    · have e : k = m := by omega
      subst e
      rw [List.drop_left' (cbcD_length hg hi hm k (Nat.le_refl _)), List.take_left' (by rw [xorl_length]; exact hg _ (blk_length hs h))]
theorem cbpD (hfg : ∀ l, l.length = b → f (g l) = l) (m : Nat) (hs : b * m ≤ src.length) (r : List UInt8) : ∀ k, k ≤ m → cbp f b iv (cbcD g b iv src m ++ r) k = cdp b iv src k
  | 0, _ => rfl
  | k + 1, h => by rw [cbp, blkD hg hi m hs r k h, cbpD hfg m hs r k (by omega), xorl_two, hfg _ (blk_length hs h), cdp]
theorem cbcE_D (hfg : ∀ l, l.length = b → f (g l) = l) (m : Nat) (hs : b * m ≤ src.length) (r : List UInt8) : ∀ k, k ≤ m → cbcE f b iv (cbcD g b iv src m ++ r) k = src.take (b * k)
  | 0, _ => rfl
  | k + 1, h => by
    rw [cbcE, cbcE_D hfg m hs r k (by omega), cbpD hg hi hfg m hs r (k + 1) h, cdp, Nat.mul_add, Nat.mul_one, List.take_add]
include hf
theorem ctsE_length {q tl : Nat} (hn : src.length = b * q + b + tl) (ht : tl ≤ b) : (ctsE f b iv src q tl).length = src.length := by
  have hs : b * (q + 1) ≤ src.length := by rw [Nat.mul_add]; omega
  have l1 := cbcE_length hf hi hs q (by omega)
  have l2 := cbp_length hf hi hs (q + 1) (Nat.le_refl _)
  have l3 : (f (ctsT f b iv src q tl)).length = b := hf _ (by unfold ctsT; rw [xorl_length, List.length_append, List.length_drop, List.length_replicate, Nat.mul_add]; omega)
  unfold ctsE
  rw [List.length_append, List.length_append, List.length_take, l1, l2, l3]
  omega
theorem ctsD_E (hgf : ∀ l, l.length = b → g (f l) = l) {q tl : Nat} (hn : src.length = b * q + b + tl) (ht : tl ≤ b) : ctsD g b iv (ctsE f b iv src q tl) q tl = src := by
  have hs1 : b * (q + 1) ≤ src.length := by rw [Nat.mul_add]; omega
  have hs : b * q ≤ src.length := by omega
  have l1 := cbcE_length hf hi hs1 q (by omega)
  have l2 := cbp_length hf hi hs1 (q + 1) (Nat.le_refl _)
  have hld : (src.drop (b * (q + 1))).length = tl := by rw [List.length_drop, Nat.mul_add]; omega
  have lT : (ctsT f b iv src q tl).length = b := by unfold ctsT; rw [xorl_length, List.length_append, hld, List.length_replicate]; omega
  have l3 := hf _ lT
  have lS : ((cbp f b iv src (q + 1)).take tl).length = tl := by rw [List.length_take]; omega
  have B : ctsO g b (ctsE f b iv src q tl) q = ctsT f b iv src q tl := by
    unfold ctsO ctsE
    rw [List.drop_left' l1, List.take_left' l3, hgf _ lT]
  have Dq : (ctsE f b iv src q tl).drop (b * (q + 1)) = (cbp f b iv src (q + 1)).take tl := by
    unfold ctsE
    rw [← List.append_assoc, List.drop_left' (by rw [List.length_append, l1, l3, Nat.mul_add]; omega)]
  have S : ctsS g b (ctsE f b iv src q tl) q tl = cbp f b iv src (q + 1) := by
    unfold ctsS
    rw [B, Dq]
    have : (ctsT f b iv src q tl).drop tl = (cbp f b iv src (q + 1)).drop tl := by
      apply List.ext_getElem?
      intro i
      rw [List.getElem?_drop, List.getElem?_drop]
      by_cases h : tl + i < b
      · unfold ctsT
        rw [xorl_getD _ _ _ (by rw [List.length_append, hld, List.length_replicate]; omega), List.getD_eq_getElem?_getD, List.getElem?_append_right (by omega), hld, Nat.add_sub_cancel_left, List.getElem?_replicate, if_pos (by omega), List.getD_eq_getElem?_getD, List.getElem?_eq_getElem (by omega)]
        simp
      · rw [List.getElem?_eq_none (by omega), List.getElem?_eq_none (by omega)]
    rw [this, List.take_append_drop]
  unfold ctsD
  rw [S, B, Dq]
  have C : cbcD g b iv (ctsE f b iv src q tl) q = src.take (b * q) := cbcD_E hf hi hgf q hs _ q (Nat.le_refl _)
  have P : cdp b iv (ctsE f b iv src q tl) q = cbp f b iv src q := cdpE hf hi q hs _ q (Nat.le_refl _)
  rw [C, P, cbp, hgf _ (by rw [xorl_length]; exact blk_length hs1 (Nat.lt_succ_self q)), xorl_two]
  rw [show f (xorl ((src.drop (b * q)).take b) (cbp f b iv src q)) = cbp f b iv src (q + 1) from rfl]
  have E : xorl ((cbp f b iv src (q + 1)).take tl) (ctsT f b iv src q tl) = src.drop (b * (q + 1)) := by
    apply List.ext_getElem?
    intro i
    by_cases h : i < tl
    · rw [xorl_getD _ _ _ (by omega), List.getElem?_eq_getElem (by omega)]
      unfold ctsT
      rw [List.getD_eq_getElem?_getD (l := xorl _ _), xorl_getD _ _ _ (by rw [List.length_append, hld, List.length_replicate]; omega), List.getD_eq_getElem?_getD, List.getElem?_take, if_pos h, ← List.getD_eq_getElem?_getD, Option.getD_some, UInt8.xor_comm, UInt8.xor_assoc, UInt8.xor_self, UInt8.xor_zero, List.getD_eq_getElem?_getD, List.getElem?_append_left (by omega), List.getElem?_eq_getElem (by omega)]
      rfl
    · rw [List.getElem?_eq_none (by rw [xorl_length]; omega), List.getElem?_eq_none (by omega)]
  rw [E, ← List.append_assoc, ← List.take_add, show b * q + b = b * (q + 1) by rw [Nat.mul_add, Nat.mul_one], List.take_append_drop]
theorem ctsD_length {q tl : Nat} (hn : src.length = b * q + b + tl) (ht : tl ≤ b) : (ctsD g b iv src q tl).length = src.length := by
  have hs1 : b * (q + 1) ≤ src.length := by rw [Nat.mul_add]; omega
  have hld : (src.drop (b * (q + 1))).length = tl := by rw [List.length_drop, Nat.mul_add]; omega
  have l1 := cbcD_length hg hi hs1 q (by omega)
  have lO : (ctsO g b src q).length = b := hg _ (blk_length hs1 (Nat.lt_succ_self q))
  have lS : (ctsS g b src q tl).length = b := by unfold ctsS; rw [List.length_append, hld, List.length_drop, lO]; omega
  unfold ctsD
  rw [List.length_append, List.length_append, xorl_length, xorl_length, l1, hld, hg _ lS]
  omega
theorem ctsE_D (hfg : ∀ l, l.length = b → f (g l) = l) {q tl : Nat} (hn : src.length = b * q + b + tl) (ht : tl ≤ b) : ctsE f b iv (ctsD g b iv src q tl) q tl = src := by
  have hs1 : b * (q + 1) ≤ src.length := by rw [Nat.mul_add]; omega
  have hs : b * q ≤ src.length := by omega
  have hld : (src.drop (b * (q + 1))).length = tl := by rw [List.length_drop, Nat.mul_add]; omega
  have l1 := cbcD_length hg hi hs1 q (by omega)
  have hB := blk_length hs1 (Nat.lt_succ_self q)
  have lO : (ctsO g b src q).length = b := hg _ hB
  have lS : (ctsS g b src q tl).length = b := by unfold ctsS; rw [List.length_append, hld, List.length_drop, lO]; omega
  have lP := hg _ lS
  have C : cbcE f b iv (ctsD g b iv src q tl) q = src.take (b * q) := cbcE_D hg hi hfg q hs _ q (Nat.le_refl _)
  have P : cbp f b iv (ctsD g b iv src q tl) q = cdp b iv src q := cbpD hg hi hfg q hs _ q (Nat.le_refl _)
  have lX : (xorl (g (ctsS g b src q tl)) (cdp b iv src q)).length = b := by rw [xorl_length]; exact lP
  have Bq : ((ctsD g b iv src q tl).drop (b * q)).take b = xorl (g (ctsS g b src q tl)) (cdp b iv src q) := by
    unfold ctsD
    rw [List.drop_left' l1, List.take_left' lX]
  have Dq : (ctsD g b iv src q tl).drop (b * (q + 1)) = xorl (src.drop (b * (q + 1))) (ctsO g b src q) := by
    unfold ctsD
    rw [← List.append_assoc, List.drop_left' (by rw [List.length_append, l1, lX, Nat.mul_add]; omega)]
  have P1 : cbp f b iv (ctsD g b iv src q tl) (q + 1) = ctsS g b src q tl := by
    rw [cbp, Bq, P, xorl_two, hfg _ lS]
  have T : ctsT f b iv (ctsD g b iv src q tl) q tl = ctsO g b src q := by
    unfold ctsT
    rw [P1, Dq]
    apply List.ext_getElem?
    intro i
    by_cases h : i < b
    · rw [xorl_getD _ _ _ (by rw [List.length_append, xorl_length, hld, List.length_replicate]; omega), List.getElem?_eq_getElem (by omega)]
      unfold ctsS
      by_cases h2 : i < tl
      · rw [List.getD_eq_getElem?_getD, List.getElem?_append_left (by rw [xorl_length]; omega), xorl_getD _ _ _ (by omega), List.getD_eq_getElem?_getD (l := _ ++ _), List.getElem?_append_left (by omega), ← List.getD_eq_getElem?_getD, Option.getD_some, UInt8.xor_comm, ← UInt8.xor_assoc, UInt8.xor_self, UInt8.zero_xor, List.getD_eq_getElem?_getD, List.getElem?_eq_getElem (by omega)]
        rfl
      · rw [List.getD_eq_getElem?_getD, List.getElem?_append_right (by rw [xorl_length]; omega), xorl_length, hld, List.getElem?_replicate, if_pos (by omega), List.getD_eq_getElem?_getD (l := _ ++ _), List.getElem?_append_right (by omega), hld, List.getElem?_drop, show tl + (i - tl) = i by omega, List.getElem?_eq_getElem (by omega)]
        simp
    · rw [List.getElem?_eq_none (by rw [xorl_length, List.length_append, xorl_length, hld, List.length_replicate]; omega), List.getElem?_eq_none (by omega)]
  unfold ctsE
  rw [C, T, P1]
  have E1 : f (ctsO g b src q) = (src.drop (b * q)).take b := hfg _ hB
  have E2 : (ctsS g b src q tl).take tl = src.drop (b * (q + 1)) := by unfold ctsS; rw [List.take_left' hld]
  rw [E1, E2, ← List.append_assoc, ← List.take_add, show b * q + b = b * (q + 1) by rw [Nat.mul_add, Nat.mul_one], List.take_append_drop]
omit hf hg hi
theorem cbp_pre {src' : List UInt8} : ∀ k, src.take (b * k) = src'.take (b * k) → cbp f b iv src k = cbp f b iv src' k
  | 0, _ => rfl
  | k + 1, h => by
    have e1 : ∀ s : List UInt8, (s.drop (b * k)).take b = (s.take (b * (k + 1))).drop (b * k) := by
      intro s
      rw [List.drop_take, Nat.mul_add, Nat.mul_one, Nat.add_sub_cancel_left]
    have e2 : src.take (b * k) = src'.take (b * k) := by
      have := congrArg (List.take (b * k)) h
      rwa [List.take_take, List.take_take, Nat.min_eq_left (Nat.mul_le_mul_left b (Nat.le_succ k))] at this
    rw [cbp, cbp, cbp_pre k e2, e1, e1, h]
theorem cbcE_pre {src' : List UInt8} : ∀ k, src.take (b * k) = src'.take (b * k) → cbcE f b iv src k = cbcE f b iv src' k
  | 0, _ => rfl
  | k + 1, h => by
    have e2 : src.take (b * k) = src'.take (b * k) := by
      have := congrArg (List.take (b * k)) h
      rwa [List.take_take, List.take_take, Nat.min_eq_left (Nat.mul_le_mul_left b (Nat.le_succ k))] at this
    rw [cbcE, cbcE, cbcE_pre k e2, cbp_pre (k + 1) h]
include hf hi
/-- What stolenFromCBC makes. -/
theorem stolen_eq {q tl : Nat} (hn : src.length = b * q + b + tl) (ht : tl ≤ b) (h1 : 1 ≤ tl) :
    ((cbcE f b iv (src ++ List.replicate (b - tl) 0) (q + 2)).take (b * q) ++ ((cbcE f b iv (src ++ List.replicate (b - tl) 0) (q + 2)).drop (b * (q + 1)) ++ ((cbcE f b iv (src ++ List.replicate (b - tl) 0) (q + 2)).drop (b * q)).take b)).take src.length = ctsE f b iv src q tl := by
  have hs1 : b * (q + 1) ≤ src.length := by rw [Nat.mul_add]; omega
  have pl : (src ++ List.replicate (b - tl) 0).length = b * (q + 2) := by rw [List.length_append, List.length_replicate, Nat.mul_add]; omega
  have hp : b * (q + 2) ≤ (src ++ List.replicate (b - tl) 0).length := by omega
  have ht1 : (src ++ List.replicate (b - tl) 0).take (b * (q + 1)) = src.take (b * (q + 1)) := List.take_append_of_le_length hs1
  have ht0 : (src ++ List.replicate (b - tl) 0).take (b * q) = src.take (b * q) := List.take_append_of_le_length (by omega)
  have hld : (src.drop (b * (q + 1))).length = tl := by rw [List.length_drop, Nat.mul_add]; omega
  have l0 := cbcE_length hf hi hp q (by omega)
  have l1 := cbp_length hf hi hp (q + 1) (by omega)
  have l2 := cbp_length hf hi hp (q + 2) (by omega)
  have E2 : cbp f b iv (src ++ List.replicate (b - tl) 0) (q + 2) = f (ctsT f b iv src q tl) := by
    rw [cbp, cbp_pre (q + 1) ht1, List.drop_append_of_le_length hs1, List.take_of_length_le (by rw [List.length_append, hld, List.length_replicate]; omega)]
    rfl
  have X : cbcE f b iv (src ++ List.replicate (b - tl) 0) (q + 2) = cbcE f b iv (src ++ List.replicate (b - tl) 0) q ++ (cbp f b iv (src ++ List.replicate (b - tl) 0) (q + 1) ++ cbp f b iv (src ++ List.replicate (b - tl) 0) (q + 2)) := by
    rw [cbcE, cbcE, List.append_assoc]
  unfold ctsE
  rw [X, ← E2, ← cbcE_pre q ht0, ← cbp_pre (q + 1) ht1]
  generalize cbcE f b iv (src ++ List.replicate (b - tl) 0) q = A at *
  generalize cbp f b iv (src ++ List.replicate (b - tl) 0) (q + 1) = S at *
  generalize cbp f b iv (src ++ List.replicate (b - tl) 0) (q + 2) = T at *
  have d : (A ++ (S ++ T)).drop (b * (q + 1)) = T := by
    rw [← List.append_assoc, List.drop_left' (by rw [List.length_append, l0, l1, Nat.mul_add]; omega)]
  rw [d, List.take_left' l0, List.drop_left' l0, List.take_left' l1, ← List.append_assoc, List.take_append, List.take_of_length_le (by rw [List.length_append, l0, l2]; omega), List.length_append, l0, l2, show src.length - (b * q + b) = tl by omega, List.append_assoc]
end
end Go.Proofs.Qxb6500769a
