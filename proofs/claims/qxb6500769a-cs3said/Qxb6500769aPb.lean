/- AES: the state's sixteen octets. -/
import Derived.Test.Qxb6500769aPa
namespace Go.Proofs.Qxb6500769a
open Go.RowKit Go.Qm
set_option linter.unusedVariables false
set_option linter.unusedSimpArgs false
theorem sixteen (s : List UInt8) (h : s.length = 16) : ∃ x0 x1 x2 x3 x4 x5 x6 x7 x8 x9 x10 x11 x12 x13 x14 x15, s = [x0, x1, x2, x3, x4, x5, x6, x7, x8, x9, x10, x11, x12, x13, x14, x15] := by
  match s, h with
  | [x0, x1, x2, x3, x4, x5, x6, x7, x8, x9, x10, x11, x12, x13, x14, x15], _ => exact ⟨x0, x1, x2, x3, x4, x5, x6, x7, x8, x9, x10, x11, x12, x13, x14, x15, rfl⟩
def sg (h : UInt8 → UInt8) (s : List UInt8) : Nat → List UInt8
  | 0 => s
  | k + 1 => (sg h s k).set k (h ((sg h s k).getD k 0))
theorem sg_take (h : UInt8 → UInt8) (s : List UInt8) : ∀ k, k ≤ s.length → sg h s k = (s.take k).map h ++ s.drop k
  | 0, _ => by simp [sg]
  | k + 1, hk => by
    have hl : ((s.take k).map h).length = k := by simp; omega
    have hd : s.drop k = s[k] :: s.drop (k + 1) := (List.getElem_cons_drop (h := by omega)).symm
    rw [sg, sg_take h s k (by omega), hd, List.getD_eq_getElem?_getD, List.getElem?_append_right (by omega), hl, Nat.sub_self, List.set_append_right _ _ (by omega), hl, Nat.sub_self, List.take_succ_eq_append_getElem (by omega), List.map_append, List.append_assoc]
    rfl
theorem sg_eq (h : UInt8 → UInt8) (x0 x1 x2 x3 x4 x5 x6 x7 x8 x9 x10 x11 x12 x13 x14 x15 : UInt8) : sg h [x0, x1, x2, x3, x4, x5, x6, x7, x8, x9, x10, x11, x12, x13, x14, x15] 16 = [x0, x1, x2, x3, x4, x5, x6, x7, x8, x9, x10, x11, x12, x13, x14, x15].map h := by
  rw [sg_take h _ 16 (by simp)]
  rfl
theorem sbk_sg (s : List UInt8) : ∀ k, sbk s k = sg sub8 s k
  | 0 => rfl
  | k + 1 => by rw [sbk, sg, sbk_sg s k]
theorem isbk_sg (s : List UInt8) : ∀ k, isbk s k = sg isub8 s k
  | 0 => rfl
  | k + 1 => by rw [isbk, sg, isbk_sg s k]
theorem sbk_eq (x0 x1 x2 x3 x4 x5 x6 x7 x8 x9 x10 x11 x12 x13 x14 x15 : UInt8) : sbk [x0, x1, x2, x3, x4, x5, x6, x7, x8, x9, x10, x11, x12, x13, x14, x15] 16 = [x0, x1, x2, x3, x4, x5, x6, x7, x8, x9, x10, x11, x12, x13, x14, x15].map sub8 := by rw [sbk_sg, sg_eq]
theorem isbk_eq (x0 x1 x2 x3 x4 x5 x6 x7 x8 x9 x10 x11 x12 x13 x14 x15 : UInt8) : isbk [x0, x1, x2, x3, x4, x5, x6, x7, x8, x9, x10, x11, x12, x13, x14, x15] 16 = [x0, x1, x2, x3, x4, x5, x6, x7, x8, x9, x10, x11, x12, x13, x14, x15].map isub8 := by rw [isbk_sg, sg_eq]
theorem srk_eq (x0 x1 x2 x3 x4 x5 x6 x7 x8 x9 x10 x11 x12 x13 x14 x15 : UInt8) : srk [x0, x1, x2, x3, x4, x5, x6, x7, x8, x9, x10, x11, x12, x13, x14, x15] 16 = [x0, x5, x10, x15, x4, x9, x14, x3, x8, x13, x2, x7, x12, x1, x6, x11] := rfl
theorem srb_eq (x0 x1 x2 x3 x4 x5 x6 x7 x8 x9 x10 x11 x12 x13 x14 x15 : UInt8) : srb [x0, x1, x2, x3, x4, x5, x6, x7, x8, x9, x10, x11, x12, x13, x14, x15] 16 = [x0, x13, x10, x7, x4, x1, x14, x11, x8, x5, x2, x15, x12, x9, x6, x3] := rfl
theorem srb_srk (s : List UInt8) (h : s.length = 16) : srb (srk s 16) 16 = s := by
  obtain ⟨x0, x1, x2, x3, x4, x5, x6, x7, x8, x9, x10, x11, x12, x13, x14, x15, rfl⟩ := sixteen s h
  rw [srk_eq, srb_eq]
theorem srk_srb (s : List UInt8) (h : s.length = 16) : srk (srb s 16) 16 = s := by
  obtain ⟨x0, x1, x2, x3, x4, x5, x6, x7, x8, x9, x10, x11, x12, x13, x14, x15, rfl⟩ := sixteen s h
  rw [srb_eq, srk_eq]
theorem isbk_sbk (s : List UInt8) (h : s.length = 16) : isbk (sbk s 16) 16 = s := by
  obtain ⟨x0, x1, x2, x3, x4, x5, x6, x7, x8, x9, x10, x11, x12, x13, x14, x15, rfl⟩ := sixteen s h
  rw [sbk_eq]
  simp only [List.map_cons, List.map_nil]
  rw [isbk_eq]
  simp only [List.map_cons, List.map_nil, isub_sub]
theorem sbk_isbk (s : List UInt8) (h : s.length = 16) : sbk (isbk s 16) 16 = s := by
  obtain ⟨x0, x1, x2, x3, x4, x5, x6, x7, x8, x9, x10, x11, x12, x13, x14, x15, rfl⟩ := sixteen s h
  rw [isbk_eq]
  simp only [List.map_cons, List.map_nil]
  rw [sbk_eq]
  simp only [List.map_cons, List.map_nil, sub_isub]
end Go.Proofs.Qxb6500769a
