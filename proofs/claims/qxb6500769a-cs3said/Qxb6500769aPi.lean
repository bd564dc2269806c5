/- DES: decryption undoes encryption, and the other way. -/
import Derived.Test.Qxb6500769aDl
namespace Go.Proofs.Qxb6500769a
open Go.RowKit Go.Qm
set_option linter.unusedVariables false
set_option linter.unusedSimpArgs false
theorem xorl_twice (a b : List UInt8) : xorl (xorl a b) b = a := by
  apply List.ext_getElem?
  intro i
  unfold xorl
  rw [List.length_map, List.length_range, List.getElem?_map]
  by_cases h : i < a.length
  · rw [List.getElem?_range h, List.getElem?_eq_getElem h]
    simp [List.getElem?_map, List.getElem?_range h, List.getElem?_eq_getElem h, UInt8.xor_assoc]
  · rw [List.getElem?_eq_none (by simp; omega), List.getElem?_eq_none (by omega)]
    rfl
theorem dst_undo (K K' : Nat → List UInt8) (l r : List UInt8) (hK : ∀ n, n < 16 → K' n = K (15 - n)) : ∀ n, n ≤ 16 → dst K' (dst K l r 16).2 (dst K l r 16).1 n = ((dst K l r (16 - n)).2, (dst K l r (16 - n)).1)
  | 0, _ => by rw [dst, Nat.sub_zero]
  | n + 1, h => by
    rw [dst, dst_undo K K' l r hK n (by omega), hK n (by omega)]
    obtain ⟨m, hm⟩ : ∃ m, 16 - n = m + 1 := ⟨15 - n, by omega⟩
    rw [hm, show 15 - n = m by omega, show 16 - (n + 1) = m by omega, dst]
    simp only
    rw [xorl_twice]
theorem chs_chs (m : List UInt8) (s t : List Nat) (h : ∀ n ∈ t, n - 1 < s.length) : chs (chs m s) t = chs m (t.map fun n => s.getD (n - 1) 1) := by
  unfold chs
  rw [List.map_map]
  apply List.map_congr_left
  intro n hn
  have := h n hn
  simp only [Function.comp_apply]
  rw [List.getD_eq_getElem?_getD, List.getElem?_map, List.getD_eq_getElem?_getD (l := s), List.getElem?_eq_getElem this]
  rfl
theorem chs_id (m : List UInt8) (h : m.length = 64) : chs m ((List.range 64).map (· + 1)) = m := by
  apply List.ext_getElem?
  intro i
  unfold chs
  rw [List.map_map, List.getElem?_map]
  by_cases hi : i < 64
  · rw [List.getElem?_range hi, List.getElem?_eq_getElem (by omega)]
    simp [List.getElem?_eq_getElem (show i < m.length by omega)]
  · rw [List.getElem?_eq_none (by simp; omega), List.getElem?_eq_none (by omega)]
    rfl
theorem ivip : (tIP.map fun n => tIV.getD (n - 1) 1) = (List.range 64).map (· + 1) := by decide
theorem ipiv : (tIV.map fun n => tIP.getD (n - 1) 1) = (List.range 64).map (· + 1) := by decide
theorem iv_ip (m : List UInt8) (h : m.length = 64) : chs (chs m tIV) tIP = m := by
  rw [chs_chs _ _ _ (by decide), ivip, chs_id m h]
theorem ip_iv (m : List UInt8) (h : m.length = 64) : chs (chs m tIP) tIV = m := by
  rw [chs_chs _ _ _ (by decide), ipiv, chs_id m h]
theorem ovl_app (a m : List UInt8) (h : a.length = 8) (q : Nat) : ∀ k, ovl (a ++ m) (8 * (q + 1)) k = ovl m (8 * q) k
  | 0 => rfl
  | k + 1 => by
    rw [ovl, ovl, ovl_app a m h q k, List.getD_eq_getElem?_getD, List.getElem?_append_right (by omega), h, show 8 * (q + 1) + k - 8 = 8 * q + k by omega, ← List.getD_eq_getElem?_getD]
theorem ovl_pre (a m : List UInt8) (h : a.length = 8) : ∀ k, k ≤ 8 → ovl (a ++ m) 0 k = ovl a 0 k
  | 0, _ => rfl
  | k + 1, hk => by
    rw [ovl, ovl, ovl_pre a m h k (by omega), List.getD_eq_getElem?_getD, List.getElem?_append_left (by omega), ← List.getD_eq_getElem?_getD]
theorem toO_cons (a m : List UInt8) (h : a.length = 8) : toO (a ++ m) = ovl a 0 8 :: toO m := by
  unfold toO toOk
  rw [List.length_append, h, show (8 + m.length) / 8 = m.length / 8 + 1 by omega, List.range_succ_eq_map, List.map_cons, List.map_map, Nat.mul_zero, ovl_pre a m h 8 (by omega)]
  have e : ∀ q, ovl (a ++ m) (8 * (q + 1)) 8 = ovl m (8 * q) 8 := fun q => ovl_app a m h q 8
  simp only [Function.comp_def, Nat.succ_eq_add_one, e]
def octOK : Bool := (List.range 256).all fun n => ovl (tbk (UInt8.ofNat n) 8) 0 8 == UInt8.ofNat n
theorem octOK_t : octOK = true := by kernel_rfl
theorem ovl_tbk (x : UInt8) : ovl (tbk x 8) 0 8 = x := by
  have h := List.all_eq_true.1 octOK_t x.toNat (List.mem_range.2 x.toNat_lt)
  rw [UInt8.ofNat_toNat] at h
  simpa using h
theorem toO_toB : ∀ l : List UInt8, toO (toB l) = l
  | [] => rfl
  | x :: l => by
    rw [show toB (x :: l) = tbk x 8 ++ toB l from rfl, toO_cons _ _ (tbk_length x 8), ovl_tbk, toO_toB l]
def ub (c : Bool) : UInt8 := if c then 1 else 0
theorem tbk8 : ∀ c0 c1 c2 c3 c4 c5 c6 c7 : Bool, tbk (ovl [ub c0, ub c1, ub c2, ub c3, ub c4, ub c5, ub c6, ub c7] 0 8) 8 = [ub c0, ub c1, ub c2, ub c3, ub c4, ub c5, ub c6, ub c7] := of_decide_eq_true (by kernel_rfl)
theorem ub_of (b : UInt8) (h : b.toNat ≤ 1) : ∃ c, b = ub c := by
  have : b.toNat = 0 ∨ b.toNat = 1 := by omega
  rcases this with h | h
  · exact ⟨false, UInt8.toNat_inj.1 h⟩
  · exact ⟨true, UInt8.toNat_inj.1 h⟩
theorem tbk_ovl (a : List UInt8) (h : a.length = 8) (hb : Bit a) : tbk (ovl a 0 8) 8 = a := by
  match a, h with
  | [b0, b1, b2, b3, b4, b5, b6, b7], _ =>
    obtain ⟨c0, h0⟩ := ub_of _ (hb 0)
    obtain ⟨c1, h1⟩ := ub_of _ (hb 1)
    obtain ⟨c2, h2⟩ := ub_of _ (hb 2)
    obtain ⟨c3, h3⟩ := ub_of _ (hb 3)
    obtain ⟨c4, h4⟩ := ub_of _ (hb 4)
    obtain ⟨c5, h5⟩ := ub_of _ (hb 5)
    obtain ⟨c6, h6⟩ := ub_of _ (hb 6)
    obtain ⟨c7, h7⟩ := ub_of _ (hb 7)
    simp only [List.getD_cons_zero, List.getD_cons_succ] at h0 h1 h2 h3 h4 h5 h6 h7
    rw [h0, h1, h2, h3, h4, h5, h6, h7]
    exact tbk8 c0 c1 c2 c3 c4 c5 c6 c7
theorem toB_toO : ∀ n (b : List UInt8), b.length = 8 * n → Bit b → toB (toO b) = b
  | 0, b, h, _ => by rw [List.length_eq_zero_iff.1 (by omega : b.length = 0)]; rfl
  | n + 1, b, h, hb => by
    have e := List.take_append_drop 8 b
    have l1 : (b.take 8).length = 8 := by simp; omega
    have T := toO_cons (b.take 8) (b.drop 8) l1
    rw [e] at T
    rw [T, show ∀ x l, toB (x :: l) = tbk x 8 ++ toB l from fun _ _ => rfl, tbk_ovl _ l1 (hb.take 8), toB_toO n (b.drop 8) (by simp; omega) (hb.drop 8), e]
theorem desx_undo (K K' : Nat → List UInt8) (hK : ∀ n, n < 16 → K' n = K (15 - n)) (blk : List UInt8) (h : blk.length = 8) : desx K' (desx K blk) = blk := by
  have lb : (toB blk).length = 64 := by rw [toB_length, h]
  have lp : (chs (toB blk) tIP).length = 64 := by rw [chs_length]; rfl
  have bl := ((Bit.toB blk).chs tIP).take 32
  have br := ((Bit.toB blk).chs tIP).drop 32
  have e := List.take_append_drop 32 (chs (toB blk) tIP)
  have ll : ((chs (toB blk) tIP).take 32).length = 32 := by simp; omega
  have lr : ((chs (toB blk) tIP).drop 32).length = 32 := by simp; omega
  have U := ip_iv (toB blk) lb
  have ED : desx K blk = toO (chs ((dst K ((chs (toB blk) tIP).take 32) ((chs (toB blk) tIP).drop 32) 16).2 ++ (dst K ((chs (toB blk) tIP).take 32) ((chs (toB blk) tIP).drop 32) 16).1) tIV) := rfl
  generalize (chs (toB blk) tIP).take 32 = l at *
  generalize (chs (toB blk) tIP).drop 32 = r at *
  have N := dst_undo K K' l r hK 16 (Nat.le_refl _)
  obtain ⟨d1, d2⟩ := dst_length K l r ll lr 16
  obtain ⟨c1, c2⟩ := Bit.dst (K := K) bl br 16
  generalize hD : dst K l r 16 = D at *
  have B : toB (desx K blk) = chs (D.2 ++ D.1) tIV := by
    rw [ED]
    exact toB_toO 8 _ (by rw [chs_length]; rfl) ((c2.app c1).chs tIV)
  have P : chs (toB (desx K blk)) tIP = D.2 ++ D.1 := by
    rw [B]
    exact iv_ip _ (by rw [List.length_append, d1, d2])
  unfold desx at P ⊢
  rw [P, List.take_left' d2, List.drop_left' d2, N]
  simp only [Nat.sub_self, dst]
  rw [e, U, toO_toB]
theorem des_undo (key blk : List UInt8) (h : blk.length = 8) (back : Bool) : desB key (desB key blk back) (!back) = blk := by
  unfold desB
  apply desx_undo _ _ _ _ h
  intro n hn
  cases back
  · simp [kdir]
  · simp only [kdir, Bool.not_true, Bool.false_eq_true, if_false, if_true]
    rw [show 15 - (15 - n) = n by omega]
theorem dec3_enc3 (key l : List UInt8) (h : l.length = 8) : dec3 key (enc3 key l) = l := by
  unfold dec3 enc3
  rw [show desB ((key.drop 16).take 8) (desB ((key.drop 16).take 8) (desB ((key.drop 8).take 8) (desB ((key.drop 0).take 8) l false) true) false) true = desB ((key.drop 8).take 8) (desB ((key.drop 0).take 8) l false) true from des_undo _ _ (desB_length _ _ _) false]
  rw [show desB ((key.drop 8).take 8) (desB ((key.drop 8).take 8) (desB ((key.drop 0).take 8) l false) true) false = desB ((key.drop 0).take 8) l false from des_undo _ _ (desB_length _ _ _) true]
  exact des_undo _ _ h false
theorem enc3_dec3 (key l : List UInt8) (h : l.length = 8) : enc3 key (dec3 key l) = l := by
  unfold dec3 enc3
  rw [show desB ((key.drop 0).take 8) (desB ((key.drop 0).take 8) (desB ((key.drop 8).take 8) (desB ((key.drop 16).take 8) l true) false) true) false = desB ((key.drop 8).take 8) (desB ((key.drop 16).take 8) l true) false from des_undo _ _ (desB_length _ _ _) true]
  rw [show desB ((key.drop 8).take 8) (desB ((key.drop 8).take 8) (desB ((key.drop 16).take 8) l true) false) true = desB ((key.drop 16).take 8) l true from des_undo _ _ (desB_length _ _ _) false]
  exact des_undo _ _ h true
end Go.Proofs.Qxb6500769a
