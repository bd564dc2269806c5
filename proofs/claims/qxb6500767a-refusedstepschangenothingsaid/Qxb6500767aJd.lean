/- RefusedStepsChangeNothing: a refused step leaves the state (plain). -/
import Derived.Test.Qxb6500767aGj
namespace Go.Proofs.Qxb6500767a
open Go.RowKit Go.Qm
set_option linter.unusedVariables false
set_option linter.unusedSimpArgs false
theorem res_ref {T : List Nd} {i n : Nat} (h : (resT T i n).2 ≠ 0) : (resT T i n).1 = T := by
  rcases resT_cases T i n with ⟨a, -⟩ | ⟨-, b⟩
  · exact absurd a h
  · exact b
theorem wrT_ref {T : List Nd} {i off : Nat} {s : List UInt8} (h : (writeT T i off s).2 ≠ 0) : (writeT T i off s).1 = T := by
  unfold writeT at *
  split
  · rfl
  · next a =>
    rw [if_neg a] at h
    split
    · next b =>
      rw [if_pos b] at h
      split
      · rfl
      · next c => rw [if_neg c] at h; exact absurd rfl h
    · next b => rw [if_neg b] at h; exact absurd rfl h
theorem make_ref {T : List Nd} {path : List UInt8} {kd : Nat} {mode : Int} {d : List UInt8} (h : (makeT T path kd mode d).2.2 ≠ 0) : (makeT T path kd mode d).1 = T := by
  unfold makeT at *
  split
  · rfl
  · next a =>
    rw [if_neg a] at h
    split
    · rfl
    · next b =>
      rw [if_neg b] at h
      split
      · rfl
      · next c => rw [if_neg c] at h; exact absurd rfl h
theorem ren_ref {T : List Nd} {f : Nat} {old path : List UInt8} (h : (renF T f old path).2 ≠ 0) : (renF T f old path).1 = T := by
  obtain ⟨r, hr⟩ : ∃ r, r = renF T f old path := ⟨_, rfl⟩
  rw [← hr] at h ⊢
  unfold renF at hr
  repeat' split at hr
  all_goals subst hr
  all_goals first | rfl | exact absurd rfl h
theorem refused_same {s : Stt} {o : OpV} (h : (playF s o).1.er ≠ 0) : (playF s o).2 = s := by
  rcases kinds o.kind with hk | hk | hk | hk | hk | hk | hk | hk | hk | hk | hk | hk | hk | hk | hk | hk | hk | hk | hk | hk | hk | hk
  · rw [playF0 hk]
  · rw [playF1 hk] at *
    have her : (opF s.u s.hs s.T o.path o.flags o.mode).2.2.2.2 ≠ 0 := by
      intro e
      apply h
      show (opA s o).er = 0
      unfold opA
      rw [if_pos e]
    simp only
    unfold opF at *
    split
    · rfl
    · next a =>
      rw [if_neg a] at her
      split
      · rfl
      · next h' hl =>
        rw [hl] at her
        simp only at her
        split
        · next b =>
          rw [if_pos b] at her
          split
          · next c => rw [make_ref c]
          · next c => rw [if_neg c] at her; exact absurd rfl her
        · next b =>
          rw [if_neg b] at her
          split
          · rfl
          · next c =>
            rw [if_neg c] at her
            split
            · rfl
            · next d => rw [if_neg d] at her; exact absurd rfl her
  · rw [playF2 hk] at *
    simp only at *
    unfold clsF at *
    split
    · rfl
    · next a => rw [if_neg a] at h; exact absurd rfl h
  · rw [playF3 hk] at *
    simp only at *
    unfold rdF at *
    repeat' split
    all_goals first | rfl | skip
    all_goals simp_all
  · rw [playF4 hk]
  · rw [playF5 hk] at *
    simp only at *
    unfold wrF at *
    split
    · rfl
    · next a =>
      rw [if_neg a] at h
      split
      · rfl
      · next b =>
        rw [if_neg b] at h
        split
        · rfl
        · next c =>
          rw [if_neg c] at h
          split
          · next d => rw [wrT_ref d]
          · next d => rw [if_neg d] at h; exact absurd rfl h
  · rw [playF6 hk] at *
    simp only at *
    unfold skF at *
    repeat' split
    all_goals first | rfl | skip
    all_goals simp_all
  · rw [playF7 hk] at *
    simp only at *
    unfold ftrT at *
    split
    · rfl
    · next a =>
      rw [if_neg a] at h
      split
      · rfl
      · next b =>
        rw [if_neg b] at h
        split
        · rfl
        · next c => rw [if_neg c] at h; rw [res_ref h]
  · rw [playF8 hk]
  · rw [playF9 hk] at *
    simp only at *
    unfold fchT at *
    split
    · rfl
    · next a =>
      rw [if_neg a] at h
      split
      · rfl
      · next b => rw [if_neg b] at h; exact absurd rfl h
  · rw [playF10 hk] at *
    simp only at *
    unfold rddF at *
    repeat' split
    all_goals first | rfl | skip
    all_goals simp_all
  · rw [playF11 hk]
  · rw [playF12 hk]
  · rw [playF13 hk] at *
    simp only at *
    unfold chpT at *
    split
    · rfl
    · next a =>
      rw [if_neg a] at h
      split
      · rfl
      · next b => rw [if_neg b] at h; exact absurd rfl h
  · rw [playF14 hk] at *
    simp only at *
    unfold trpT at *
    split
    · rfl
    · next a =>
      rw [if_neg a] at h
      split
      · rfl
      · next b =>
        rw [if_neg b] at h
        split
        · rfl
        · next c =>
          rw [if_neg c] at h
          split
          · rfl
          · next d => rw [if_neg d] at h; rw [res_ref h]
  · rw [playF15 hk]
  · rw [playF16 hk] at *
    simp only at *
    unfold mkdT at *
    split
    · next a => rw [if_pos a] at h; simp only; rw [make_ref h]
    · rfl
  · rw [playF17 hk] at *
    simp only at *
    unfold unlT at *
    repeat' split
    all_goals first | rfl | skip
    all_goals simp_all
  · rw [playF18 hk] at *
    simp only at *
    unfold rmdT at *
    repeat' split
    all_goals first | rfl | skip
    all_goals simp_all
  · rw [playF19 hk] at *
    simp only at *
    rw [ren_ref h]
  · rw [playF20 hk] at *
    simp only at *
    unfold linkT at *
    repeat' split
    all_goals first | rfl | skip
    all_goals simp_all
  · rw [playF21 hk] at *
    simp only at *
    unfold symT at *
    split
    · rfl
    · next a =>
      rw [if_neg a] at h
      split
      · rfl
      · next b => rw [if_neg b] at h; simp only; rw [make_ref h]
end Go.Proofs.Qxb6500767a
