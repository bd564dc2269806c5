/- The work of a program, counted without a cap (plain): what bounds the gates. -/
import Derived.Test.Qxb6500772aTh
namespace Go.Proofs.Qxb6500772a
set_option linter.unusedVariables false
def nX1 (f : EF) (ks : Nat) : Nat := (if f.k = 3 ∧ 0 < f.l then 1 + f.l.toNat else 1) + ks
/-- The steps of a list of expressions. -/
def nE : EL → Nat
  | .nil => 0
  | .cons f k r => nX1 f (nE k) + nE r
def nX (x : EF × EL) : Nat := nX1 x.1 (nE x.2)
theorem stN_ge (f : EF) (ks n : Nat) : min n 4097 ≤ stN f ks n := by unfold stN; split <;> omega
theorem stE_ge : ∀ (t : EL) (n : Nat), min n 4097 ≤ stE t n
  | .nil, n => by rw [stE]; omega
  | .cons f k r, n => by
    have h1 := stE_ge r (stN f (stE k 0) n)
    have h2 := stN_ge f (stE k 0) n
    rw [stE]; omega
theorem nE_le : ∀ (t : EL) (n : Nat), stE t n ≤ 4096 → n + nE t ≤ stE t n
  | .nil, n, h => by rw [stE, nE]; omega
  | .cons f k r, n, h => by
    rw [stE] at h ⊢
    have h1 := nE_le r _ h
    have h2 := stE_ge r (stN f (stE k 0) n)
    have h3 : stN f (stE k 0) n ≤ 4096 := by omega
    have h4 : stE k 0 ≤ 4096 := by unfold stN at h3; split at h3 <;> omega
    have h5 := nE_le k 0 h4
    rw [nE]
    have h6 : n + nX1 f (nE k) ≤ stN f (stE k 0) n := by
      unfold nX1
      unfold stN at h3 ⊢
      split at h3 <;> rename_i c
      · rw [if_pos c, if_pos c]; omega
      · rw [if_neg c, if_neg c]; omega
    omega
def nS1 (f : SF) (ex th el : Nat) : Nat := 1 + ex + (if f.k = 1 ∧ 0 < f.l then f.l.toNat else if f.k = 2 then th + el else if f.k = 3 then itN f.a f.b * (1 + th) else 0)
/-- The steps of a list of statements. -/
def nS : SL → Nat
  | .nil => 0
  | .cons f ex th el r => nS1 f (nE ex) (nS th) (nS el) + nS r
def nY (x : SF × EL × SL × SL) : Nat := nS1 x.1 (nE x.2.1) (nS x.2.2.1) (nS x.2.2.2)
theorem stS1_ge (n : Nat) (f : SF) (ex : Nat) (th el a : Nat × Nat) : min a.1 4097 ≤ (stS1 n f ex th el a).1 := by
  unfold stS1
  split
  · simp only; omega
  split
  · split <;> (simp only; omega)
  split
  · simp only; omega
  split
  · simp only
    generalize itN f.a f.b * (1 + th.1) = z
    omega
  · simp only; omega
theorem stS_ge (n : Nat) : ∀ (t : SL) (a : Nat × Nat), min a.1 4097 ≤ (stS n t a).1
  | .nil, a => by rw [stS]; omega
  | .cons f ex th el r, a => by
    have h1 := stS_ge n r (stS1 n f (stE ex 0) (stS n th (0, 0)) (stS n el (0, 0)) a)
    have h2 := stS1_ge n f (stE ex 0) (stS n th (0, 0)) (stS n el (0, 0)) a
    rw [stS]; omega
theorem nS_le (n : Nat) : ∀ (t : SL) (a : Nat × Nat), (stS n t a).1 ≤ 4096 → a.1 + nS t ≤ (stS n t a).1
  | .nil, a, h => by rw [stS, nS]; omega
  | .cons f ex th el r, a, h => by
    rw [stS] at h ⊢
    have h1 := nS_le n r _ h
    have h2 := stS_ge n r (stS1 n f (stE ex 0) (stS n th (0, 0)) (stS n el (0, 0)) a)
    have h3 : (stS1 n f (stE ex 0) (stS n th (0, 0)) (stS n el (0, 0)) a).1 ≤ 4096 := by omega
    have hE := nE_le ex 0
    have hT := nS_le n th (0, 0)
    have hL := nS_le n el (0, 0)
    have h6 : a.1 + nS1 f (nE ex) (nS th) (nS el) ≤ (stS1 n f (stE ex 0) (stS n th (0, 0)) (stS n el (0, 0)) a).1 := by
      generalize stS n th (0, 0) = T at *
      generalize stS n el (0, 0) = L at *
      generalize stE ex 0 = E at *
      clear h h1 h2
      unfold nS1
      unfold stS1 at h3 ⊢
      split at h3 <;> rename_i c0
      · rw [if_pos c0, if_neg (by omega), if_neg (by omega), if_neg (by omega)]
        simp only at h3 ⊢; omega
      rw [if_neg c0]
      split at h3 <;> rename_i c1
      · rw [if_pos c1]
        split at h3 <;> rename_i c2
        · rw [if_pos c2, if_pos ⟨c1, c2⟩]
          simp only at h3 ⊢; omega
        · rw [if_neg c2, if_neg (fun a => c2 a.2), if_neg (by omega), if_neg (by omega)]
          simp only at h3 ⊢; omega
      rw [if_neg c1, if_neg (fun a => c1 a.1)]
      split at h3 <;> rename_i c2
      · rw [if_pos c2, if_pos c2]
        simp only at h3 ⊢; omega
      rw [if_neg c2, if_neg c2]
      split at h3 <;> rename_i c3
      · rw [if_pos c3, if_pos c3]
        simp only at h3 ⊢ hT
        by_cases hz : itN f.a f.b = 0
        · rw [hz, Nat.zero_mul] at h3 ⊢
          omega
        · have hm : 1 * (1 + T.1) ≤ itN f.a f.b * (1 + T.1) := Nat.mul_le_mul_right _ (by omega)
          have hT2 : T.1 ≤ 4096 := by
            generalize itN f.a f.b * (1 + T.1) = z at *
            omega
          have hT3 := hT hT2
          have hm2 : itN f.a f.b * (1 + nS th) ≤ itN f.a f.b * (1 + T.1) := Nat.mul_le_mul_left _ (by omega)
          generalize itN f.a f.b * (1 + T.1) = z at *
          generalize itN f.a f.b * (1 + nS th) = y at *
          omega
      · rw [if_neg c3, if_neg c3]
        simp only at h3 ⊢; omega
    rw [nS]
    omega
theorem nE_mem : ∀ {t : EL} {x : EF × EL}, x ∈ t.toL → nX x ≤ nE t
  | .nil, x, h => by simp [EL.toL] at h
  | .cons f k r, x, h => by
    simp only [EL.toL, List.mem_cons] at h
    simp only [nE]
    rcases h with rfl | h
    · simp only [nX]; omega
    · have := nE_mem h; omega
def nEs (l : List (EF × EL)) : Nat := (l.map nX).sum
theorem nE_sum : ∀ (t : EL), nE t = nEs t.toL
  | .nil => rfl
  | .cons f k r => by rw [nE, nE_sum r]; rfl
def nSs (l : List (SF × EL × SL × SL)) : Nat := (l.map nY).sum
theorem nS_sum : ∀ (t : SL), nS t = nSs t.toL
  | .nil => rfl
  | .cons f ex th el r => by rw [nS, nS_sum r]; rfl
theorem nEs_take {l : List (EF × EL)} {k : Nat} (h : k < l.length) : nEs (l.take (k + 1)) = nEs (l.take k) + nX l[k] := by
  rw [List.take_succ_eq_append_getElem h]; unfold nEs; rw [List.map_append, List.sum_append]; simp
theorem nSs_take {l : List (SF × EL × SL × SL)} {k : Nat} (h : k < l.length) : nSs (l.take (k + 1)) = nSs (l.take k) + nY l[k] := by
  rw [List.take_succ_eq_append_getElem h]; unfold nSs; rw [List.map_append, List.sum_append]; simp
theorem nEs_le (l : List (EF × EL)) (k : Nat) : nEs (l.take k) ≤ nEs l := by
  have : nEs l = nEs (l.take k) + nEs (l.drop k) := by
    conv => lhs; rw [← List.take_append_drop k l]
    unfold nEs; rw [List.map_append, List.sum_append]
  omega
theorem nSs_le (l : List (SF × EL × SL × SL)) (k : Nat) : nSs (l.take k) ≤ nSs l := by
  have : nSs l = nSs (l.take k) + nSs (l.drop k) := by
    conv => lhs; rw [← List.take_append_drop k l]
    unfold nSs; rw [List.map_append, List.sum_append]
  omega
end Go.Proofs.Qxb6500772a
