/- Camellia: decryption undoes encryption, and the other way. -/
import Derived.Test.Qxb6500769aPg
namespace Go.Proofs.Qxb6500769a
open Go.RowKit Go.Qm
set_option linter.unusedVariables false
set_option linter.unusedSimpArgs false
def flS (kes : List Int) (i : Nat) (d : Int × Int) : Int × Int := if 0 < i ∧ i % 6 = 0 then (cFL d.1 (kes.getD (i / 3 - 2) 0), cFI d.2 (kes.getD (i / 3 - 1) 0)) else d
def feS (ks : List Int) (i : Nat) (e : Int × Int) : Int × Int := (bits .xor .u64 e.1 (cF (bits .xor .u64 e.2 (cF e.1 (ks.getD i 0))) (ks.getD (i + 1) 0)), bits .xor .u64 e.2 (cF e.1 (ks.getD i 0)))
theorem cmR_eq (ks kes : List Int) (i : Nat) (d : Int × Int) : cmR ks kes i d = feS ks i (flS kes i d) := rfl
def swp (d : Int × Int) : Int × Int := (d.2, d.1)
def In2 (d : Int × Int) : Prop := (0 ≤ d.1 ∧ d.1 < 18446744073709551616) ∧ (0 ≤ d.2 ∧ d.2 < 18446744073709551616)
theorem in2_of {a b : Int} (ha : 0 ≤ a ∧ a < 18446744073709551616) (hb : 0 ≤ b ∧ b < 18446744073709551616) : In2 (a, b) := ⟨ha, hb⟩
theorem cFL_lt (x k : Int) : 0 ≤ cFL x k ∧ cFL x k < 18446744073709551616 := by unfold cFL cOut; exact bits64_lt _ _ _
theorem cFI_lt (x k : Int) : 0 ≤ cFI x k ∧ cFI x k < 18446744073709551616 := by unfold cFI cOut; exact bits64_lt _ _ _
theorem In2.fe (ks : List Int) (i : Nat) (e : Int × Int) : In2 (feS ks i e) := by unfold feS; exact in2_of (bits64_lt _ _ _) (bits64_lt _ _ _)
theorem In2.fl (kes : List Int) (i : Nat) {d : Int × Int} (h : In2 d) : In2 (flS kes i d) := by
  unfold flS
  split
  · exact in2_of (cFL_lt _ _) (cFI_lt _ _)
  · exact h
theorem fe_swp (ks ks' : List Int) (i i' : Nat) (e : Int × Int) (h : In2 e) (h1 : ks'.getD i' 0 = ks.getD (i + 1) 0) (h2 : ks'.getD (i' + 1) 0 = ks.getD i 0) : feS ks' i' (swp (feS ks i e)) = swp e := by
  have x1 := xor64_x e.1 (cF (bits .xor .u64 e.2 (cF e.1 (ks.getD i 0))) (ks.getD (i + 1) 0)) h.1
  have x2 := xor64_x e.2 (cF e.1 (ks.getD i 0)) h.2
  simp only [feS, swp]
  rw [h1, h2, x1, x2]
theorem fl_swp (kes kes' : List Int) (i i' : Nat) (d : Int × Int) (h : In2 d) (hc : (0 < i' ∧ i' % 6 = 0) ↔ (0 < i ∧ i % 6 = 0)) (h1 : 0 < i ∧ i % 6 = 0 → kes'.getD (i' / 3 - 2) 0 = kes.getD (i / 3 - 1) 0 ∧ kes'.getD (i' / 3 - 1) 0 = kes.getD (i / 3 - 2) 0) : flS kes' i' (swp (flS kes i d)) = swp d := by
  unfold flS
  by_cases hi : 0 < i ∧ i % 6 = 0
  · rw [if_pos hi, if_pos (hc.2 hi), (h1 hi).1, (h1 hi).2]
    simp only [swp]
    rw [cFL_cFI _ _ h.2, cFI_cFL _ _ h.1]
  · rw [if_neg hi, if_neg (fun h => hi (hc.1 h))]
theorem rev_get (l : List Int) (i j : Nat) (h : i + j + 1 = l.length) : l.reverse.getD i 0 = l.getD j 0 := by
  rw [List.getD_eq_getElem?_getD, List.getD_eq_getElem?_getD, List.getElem?_reverse (by omega), show l.length - 1 - i = j by omega]
theorem In2.cm (ks kes : List Int) {d : Int × Int} (h : In2 d) : ∀ j, In2 (cmK ks kes d j)
  | 0 => h
  | j + 1 => by rw [cmK, cmR_eq]; exact In2.fe _ _ _
theorem cm_step (ks kes : List Int) (d : Int × Int) (n : Nat) (hks : ks.length = 2 * n) (hd : In2 d) (s : Int × Int) (j : Nat) (hj : j < n) (h : flS kes.reverse (2 * j) s = swp (cmK ks kes d (n - j))) : cmR ks.reverse kes.reverse (2 * j) s = swp (flS kes (2 * (n - j - 1)) (cmK ks kes d (n - j - 1))) := by
  rw [cmR_eq, h]
  obtain ⟨m, hm⟩ : ∃ m, n - j = m + 1 := ⟨n - j - 1, by omega⟩
  rw [hm, Nat.add_sub_cancel, cmK, cmR_eq, fe_swp _ _ _ _ _ ((hd.cm ks kes m).fl _ _) (rev_get _ _ _ (by omega)) (rev_get _ _ _ (by omega))]
theorem cm_undo (ks kes : List Int) (d : Int × Int) (n : Nat) (hks : ks.length = 2 * n) (h3 : n % 3 = 0) (hke : kes.length + 2 = 2 * (n / 3)) (hd : In2 d) : ∀ j, j < n → flS kes.reverse (2 * j) (cmK ks.reverse kes.reverse (swp (cmK ks kes d n)) j) = swp (cmK ks kes d (n - j))
  | 0, _ => by rw [flS, if_neg (by omega), cmK]; rfl
  | j + 1, hj => by
    rw [cmK, cm_step ks kes d n hks hd _ j (by omega) (cm_undo ks kes d n hks h3 hke hd j (by omega))]
    rw [show n - (j + 1) = n - j - 1 by omega]
    exact fl_swp _ _ _ _ _ (hd.cm _ _ _) (by omega) (fun hi => ⟨rev_get _ _ _ (by omega), rev_get _ _ _ (by omega)⟩)
theorem cm_back (ks kes : List Int) (d : Int × Int) (n : Nat) (hks : ks.length = 2 * n) (h1 : 0 < n) (h3 : n % 3 = 0) (hke : kes.length + 2 = 2 * (n / 3)) (hd : In2 d) : cmK ks.reverse kes.reverse (swp (cmK ks kes d n)) n = swp d := by
  obtain ⟨m, rfl⟩ : ∃ m, n = m + 1 := ⟨n - 1, by omega⟩
  rw [show cmK ks.reverse kes.reverse (swp (cmK ks kes d (m + 1))) (m + 1) = cmR ks.reverse kes.reverse (2 * m) (cmK ks.reverse kes.reverse (swp (cmK ks kes d (m + 1))) m) from rfl]
  rw [cm_step ks kes d (m + 1) hks hd _ m (by omega) (cm_undo ks kes d (m + 1) hks h3 hke hd m (by omega))]
  rw [show m + 1 - m - 1 = 0 by omega, flS, if_neg (by omega), cmK]
theorem n64_nat (n : Nat) (h : n < 18446744073709551616) : n64 (n : Int) = n := by unfold n64; omega
theorem num8_lt (l : List UInt8) (h : l.length = 8) : num l < 18446744073709551616 := by
  have := num_lt l
  rw [h] at this
  exact this
theorem n64_num (x : Int) (hx : 0 ≤ x ∧ x < 18446744073709551616) : ((num (dig (n64 x) 8) : Nat) : Int) = x := by
  rw [num_dig 8 _ (n64_lt x)]
  unfold n64; omega
theorem cam_undo (a b c e : Int) (ks kes : List Int) (n : Nat) (hks : ks.length = 2 * n) (h1 : 0 < n) (h3 : n % 3 = 0) (hke : kes.length + 2 = 2 * (n / 3)) (blk : List UInt8) (hb : blk.length = 16) :
    cam [c, e, a, b] ks.reverse kes.reverse (cam [a, b, c, e] ks kes blk) = blk := by
  have l1 : ((blk.drop 0).take 8).length = 8 := by simp; omega
  have l2 : ((blk.drop 8).take 8).length = 8 := by simp; omega
  have s1 : (blk.drop 0).take 8 ++ (blk.drop 8).take 8 = blk := by
    rw [List.drop_zero, List.take_of_length_le (l := blk.drop 8) (by simp; omega), List.take_append_drop]
  unfold cam
  simp only [List.length_reverse]
  rw [show ks.length / 2 = n by omega]
  generalize hx : (blk.drop 0).take 8 = x at *
  generalize hy : (blk.drop 8).take 8 = y at *
  have nx := num8_lt x l1
  have ny := num8_lt y l2
  have hd : In2 (bits .xor .u64 ((num x : Nat) : Int) ([a, b, c, e].getD 0 0), bits .xor .u64 ((num y : Nat) : Int) ([a, b, c, e].getD 1 0)) := in2_of (bits64_lt _ _ _) (bits64_lt _ _ _)
  have B := cm_back ks kes _ n hks h1 h3 hke hd
  have hD := hd.cm ks kes n
  generalize hDe : cmK ks kes (bits .xor .u64 ((num x : Nat) : Int) ([a, b, c, e].getD 0 0), bits .xor .u64 ((num y : Nat) : Int) ([a, b, c, e].getD 1 0)) n = D at *
  have t1 : ((dig (n64 (bits .xor .u64 D.2 ([a, b, c, e].getD 2 0))) 8 ++ dig (n64 (bits .xor .u64 D.1 ([a, b, c, e].getD 3 0))) 8).drop 0).take 8 = dig (n64 (bits .xor .u64 D.2 ([a, b, c, e].getD 2 0))) 8 := by
    rw [List.drop_zero, List.take_append_of_le_length (by rw [dig_length]; omega), List.take_of_length_le (by rw [dig_length]; omega)]
  have t2 : ((dig (n64 (bits .xor .u64 D.2 ([a, b, c, e].getD 2 0))) 8 ++ dig (n64 (bits .xor .u64 D.1 ([a, b, c, e].getD 3 0))) 8).drop 8).take 8 = dig (n64 (bits .xor .u64 D.1 ([a, b, c, e].getD 3 0))) 8 := by
    rw [List.drop_left' (by rw [dig_length]), List.take_of_length_le (by rw [dig_length]; omega)]
  rw [t1, t2, n64_num _ (bits64_lt _ _ _), n64_num _ (bits64_lt _ _ _)]
  have y1 : bits .xor .u64 (bits .xor .u64 D.2 ([a, b, c, e].getD 2 0)) ([c, e, a, b].getD 0 0) = D.2 := xor64_x _ _ hD.2
  have y2 : bits .xor .u64 (bits .xor .u64 D.1 ([a, b, c, e].getD 3 0)) ([c, e, a, b].getD 1 0) = D.1 := xor64_x _ _ hD.1
  rw [y1, y2]
  rw [show ((D.2, D.1) : Int × Int) = swp D from rfl, B]
  have z1 : bits .xor .u64 (bits .xor .u64 ((num x : Nat) : Int) ([a, b, c, e].getD 0 0)) ([c, e, a, b].getD 2 0) = ((num x : Nat) : Int) := xor64_x _ _ (by omega)
  have z2 : bits .xor .u64 (bits .xor .u64 ((num y : Nat) : Int) ([a, b, c, e].getD 1 0)) ([c, e, a, b].getD 3 0) = ((num y : Nat) : Int) := xor64_x _ _ (by omega)
  simp only [swp]
  rw [z1, z2, n64_nat _ nx, n64_nat _ ny, dig_num 8 x l1, dig_num 8 y l2]
  exact s1
end Go.Proofs.Qxb6500769a
