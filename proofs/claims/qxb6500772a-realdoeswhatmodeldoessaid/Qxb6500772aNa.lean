/- blastlaw: states whose input cells are replaced (plain). -/
import Derived.Test.Qxb6500772aSc
namespace Go.Proofs.Qxb6500772a
set_option linter.unusedVariables false
set_option linter.unusedSimpArgs false
def inpA (cels : List Cel) (i : Nat) : Bool := ((cels[i]?).map (·.inp)).getD false
theorem inpA_get {cels : List Cel} {i : Nat} (h : i < cels.length) : inpA cels i = cels[i].inp := by simp [inpA, List.getElem?_eq_getElem h]
/-- S with the input cells among the first k set to g. -/
def mixK (cels : List Cel) (g : Nat → Nat) (S : PS) : Nat → PS
  | 0 => S
  | k + 1 => if inpA cels k = true then (mixK cels g S k).put k (g k) else mixK cels g S k
theorem mixK_len (cels : List Cel) (g : Nat → Nat) (S : PS) : ∀ k, (mixK cels g S k).cells.length = S.cells.length
  | 0 => rfl
  | k + 1 => by
    rw [mixK]
    split
    · simp [PS.put, mixK_len cels g S k]
    · exact mixK_len cels g S k
theorem mixK_fault (cels : List Cel) (g : Nat → Nat) (S : PS) : ∀ k, (mixK cels g S k).fault = S.fault
  | 0 => rfl
  | k + 1 => by
    rw [mixK]
    split
    · simp [PS.put, mixK_fault cels g S k]
    · exact mixK_fault cels g S k
theorem mixK_at (cels : List Cel) (g : Nat → Nat) (S : PS) : ∀ k i, i < S.cells.length → (mixK cels g S k).at i = if i < k ∧ inpA cels i = true then g i else S.at i
  | 0, i, _ => by simp [mixK]
  | k + 1, i, hi => by
    rw [mixK]
    split
    · rename_i hk
      have h2 : (mixK cels g S k).cells.length = S.cells.length := mixK_len cels g S k
      by_cases e : i = k
      · subst e
        have h3 : i < (mixK cels g S i).cells.length := by omega
        simp [PS.put, PS.at, List.getD_eq_getElem?_getD, h3, hk]
      · have h3 : ((mixK cels g S k).put k (g k)).at i = (mixK cels g S k).at i := by
          simp only [PS.put, PS.at, List.getD_eq_getElem?_getD]
          rw [List.getElem?_set_ne (by omega)]
        rw [h3, mixK_at cels g S k i hi]
        by_cases h4 : i < k
        · have : i < k + 1 := by omega
          simp [h4, this]
        · have : ¬ i < k + 1 := by omega
          simp [h4, this]
    · rename_i hk
      rw [mixK_at cels g S k i hi]
      by_cases e : i = k
      · subst e; simp [hk]
      · by_cases h4 : i < k
        · have : i < k + 1 := by omega
          simp [h4, this]
        · have : ¬ i < k + 1 := by omega
          simp [h4, this]
theorem cwOf_len (cels : List Cel) : (cwOf cels).length = cels.length := by simp [cwOf]
theorem cnOf_len (cels : List Cel) : (cnOf cels).length = cels.length := by simp [cnOf]
theorem cnOf_at {cels : List Cel} {i : Nat} (h : i < cels.length) : (cnOf cels).getD i 0 = if inpA cels i = true then 0 else (cwOf cels).getD i 0 := by
  simp [cnOf, cwOf, inpA_get h, List.getD_eq_getElem?_getD, List.getElem?_map, List.getElem?_eq_getElem h]
/-- The state behind the scan, its input cells 0. -/
def nxOf (cels : List Cel) (S : PS) : PS := mixK cels (fun _ => 0) S cels.length
theorem nx_ok {cels : List Cel} {S : PS} (h : StOK (cwOf cels) S) : StOK (cnOf cels) (nxOf cels S) := by
  have hl : S.cells.length = cels.length := by rw [h.1, cwOf_len]
  refine ⟨by rw [nxOf, mixK_len, hl, cnOf_len], fun i hi => ?_⟩
  rw [cnOf_len] at hi
  rw [cnOf_at hi]
  show (nxOf cels S).at i < _
  rw [nxOf, mixK_at _ _ _ _ _ (by omega)]
  by_cases e : inpA cels i = true
  · simp [e, hi]
  · simp only [e]
    have h2 : S.at i < 2 ^ ((cwOf cels).getD i 0).toNat := h.2 i (by rw [cwOf_len]; exact hi)
    simpa using h2
theorem nx_fault (cels : List Cel) (S : PS) : (nxOf cels S).fault = S.fault := mixK_fault _ _ _ _
theorem nx_at {cels : List Cel} {S : PS} (hl : S.cells.length = cels.length) : ∀ i < (cnOf cels).length, 0 < ((cnOf cels).getD i 0).toNat → (nxOf cels S).at i = S.at i := fun i hi h0 => by
  rw [cnOf_len] at hi
  rw [cnOf_at hi] at h0
  rw [nxOf, mixK_at _ _ _ _ _ (by omega)]
  by_cases e : inpA cels i = true
  · rw [if_pos e] at h0; simp at h0
  · simp [e]
end Go.Proofs.Qxb6500772a
