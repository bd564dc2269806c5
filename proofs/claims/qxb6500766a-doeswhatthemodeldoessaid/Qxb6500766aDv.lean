/- foldindexlaw: play, whole. -/
import Derived.Test.Qxb6500766aDm
import Derived.Test.Qxb6500766aDn
import Derived.Test.Qxb6500766aDo
import Derived.Test.Qxb6500766aDp
import Derived.Test.Qxb6500766aDq
import Derived.Test.Qxb6500766aDr
import Derived.Test.Qxb6500766aDt
import Derived.Test.Qxb6500766aDu
namespace Go.Proofs.Qxb6500766a
open Go.RowKit Go.Qm
set_option linter.unusedVariables false
theorem dirB_nat {d : Int} (h : dirB d = true) : ∃ n : Nat, d = n ∧ n < 24 := ⟨d.toNat, by simp [dirB] at h; omega, by simp [dirB] at h; omega⟩
theorem layB_nat {d : Int} (h : layB d = true) : ∃ n : Nat, d = n ∧ n < 8 := ⟨d.toNat, by simp [layB] at h; omega, by simp [layB] at h; omega⟩
theorem badA_no {d l what : Int} {name : List UInt8} (h : badA d l name what = false) : dirB d = true ∧ layB l = true ∧ name ≠ [] ∧ 1 ≤ what ∧ what ≤ 4 := by
  unfold badA at h
  simp only [Bool.or_eq_false_iff, Bool.not_eq_false', Bool.and_eq_true, beq_eq_false_iff_ne, decide_eq_false_iff_not] at h
  obtain ⟨⟨⟨⟨a, b⟩, c⟩, e⟩, f⟩ := h
  exact ⟨a, b, c, by omega, by omega⟩
theorem badR_no {d l : Int} {name : List UInt8} (h : badR d l name = false) : dirB d = true ∧ layB l = true ∧ name ≠ [] := by
  unfold badR at h
  simp only [Bool.or_eq_false_iff, Bool.not_eq_false', Bool.and_eq_true, beq_eq_false_iff_ne] at h
  exact ⟨h.1.1, h.1.2, h.2⟩
section
variable {B : Nat} {fp : Nat → Prop} {w : World} {gs gc gw N : Nat} {R : Sys}
theorem play_c (o : OpV) (h : WW B fp w gs gc N R) (hw : Arr w gw 38 [.pointer (some ⟨gs, 0, none⟩), .pointer (some ⟨gc, 0, none⟩)]) (hgw : ¬ fp gw) (hN : N ≤ 1000000000000) (hnm : o.name.length ≤ 1000000) :
    Calls Try.prog 10 #[.pointer (some ⟨gw, 0, none⟩), .agg (opC o).toArray] w fun e w' => PlayP B fp w gs gc N (playF R o) e w' := by
  obtain ⟨kd, d, l, name, what⟩ := o
  have hnm : name.length ≤ 1000000 := hnm
  show Calls Try.prog 10 #[.pointer (some ⟨gw, 0, none⟩), .agg #[.int .i64 kd, .int .i64 d, .int .i64 l, str name, .int .i64 what]] w _
  unfold playF
  simp only
  by_cases k1 : kd = 1
  · subst k1
    rw [if_pos rfl]
    unfold addF
    simp only
    cases hb : badA d l name what with
    | true => rw [if_pos rfl]; exact play1b d l what name h hw hN hnm hb
    | false =>
      rw [if_neg (by simp)]
      obtain ⟨hd, hl, hne, ha, hz⟩ := badA_no hb
      obtain ⟨d', rfl, hd'⟩ := dirB_nat hd
      obtain ⟨l', rfl, hl'⟩ := layB_nat hl
      simp only [Int.toNat_natCast]
      cases hh : hasR name (R d' l') with
      | true => rw [if_pos rfl]; exact play1h d' l' what name h hw hN hnm hgw hd' l' hl' rfl hne ha hz hh
      | false =>
        rw [if_neg (by simp)]
        by_cases hr : 12 ≤ (R d' l').length
        · rw [if_pos hr]; exact play1f d' l' what name h hw hN hnm hgw hd' l' hl' rfl hne ha hz hh hr
        · rw [if_neg hr]; exact play1 d' l' what name h hw hN hnm hgw hd' l' hl' rfl hne ha hz hh (by omega)
  rw [if_neg k1]
  by_cases k2 : kd = 2
  · subst k2
    rw [if_pos rfl]
    unfold remF
    simp only
    cases hb : badR d l name with
    | true => rw [if_pos rfl]; exact play2b d l what name h hw hN hnm hb
    | false =>
      rw [if_neg (by simp)]
      obtain ⟨hd, hl, hne⟩ := badR_no hb
      obtain ⟨d', rfl, hd'⟩ := dirB_nat hd
      obtain ⟨l', rfl, hl'⟩ := layB_nat hl
      simp only [Int.toNat_natCast]
      cases hh : hasR name (R d' l') with
      | true => rw [if_pos rfl]; exact play2 d' l' what name h hw hN hnm hgw hd' l' hl' rfl hne hh
      | false => rw [if_neg (by simp)]; exact play2n d' l' what name h hw hN hnm hgw hd' l' hl' rfl hne hh
  rw [if_neg k2]
  by_cases k3 : kd = 3
  · subst k3
    rw [if_pos rfl]
    unfold lookF
    simp only
    cases hk : keyF name with
    | none => exact play3n d l what name h hw hN hnm hk
    | some k =>
      simp only
      cases hd : dirB d with
      | false => rw [if_neg (by simp)]; exact play3b d l what name h hw hN hnm hd k hk
      | true =>
        rw [if_pos rfl]
        obtain ⟨d', rfl, hd'⟩ := dirB_nat hd
        exact play3 d' l what name h hw hN hnm hd' k hk
  rw [if_neg k3]
  by_cases k4 : kd = 4
  · subst k4
    rw [if_pos rfl]
    unfold nextF afterF
    simp only
    by_cases hne : name = []
    · subst hne
      rw [if_pos rfl]
      simp only
      cases hd : dirB d with
      | false => rw [if_neg (by simp)]; exact play40b d l what [] h hw hN hnm hd
      | true =>
        rw [if_pos rfl]
        obtain ⟨d', rfl, hd'⟩ := dirB_nat hd
        exact play40 d' l what [] h hw hN hnm hd'
    · rw [if_neg hne]
      cases hk : keyF name with
      | none => exact play4n d l what name h hw hN hnm hne hk
      | some k =>
        simp only
        cases hd : dirB d with
        | false => rw [if_neg (by simp)]; exact play4b d l what name h hw hN hnm hne hd k hk
        | true =>
          rw [if_pos rfl]
          obtain ⟨d', rfl, hd'⟩ := dirB_nat hd
          exact play4 d' l what name h hw hN hnm hne hd' k hk
  rw [if_neg k4]
  by_cases k5 : kd = 5
  · subst k5
    rw [if_pos rfl]
    unfold cntF
    simp only
    cases hd : dirB d with
    | false => rw [if_neg (by simp)]; exact play5b d l what name h hw hN hnm hd
    | true =>
      rw [if_pos rfl]
      obtain ⟨d', rfl, hd'⟩ := dirB_nat hd
      exact play5 d' l what name h hw hN hnm hd'
  rw [if_neg k5]
  by_cases k6 : kd = 6 ∨ kd = 7
  · rw [if_pos k6]
    cases hd : dirB d with
    | false =>
      rw [if_neg (by simp)]
      rcases k6 with rfl | rfl
      · exact play6b d l what name h hw hN hnm hd
      · exact play7b d l what name h hw hN hnm hd
    | true =>
      rw [if_pos rfl]
      obtain ⟨d', rfl, hd'⟩ := dirB_nat hd
      rcases k6 with rfl | rfl
      · exact play6 d' l what name h hw hN hnm hd'
      · exact play7 d' l what name h hw hN hnm hd'
  rw [if_neg k6]
  by_cases k8 : kd = 8
  · subst k8
    rw [if_pos rfl]
    exact play8 d l what name h hw hN hnm
  rw [if_neg k8]
  exact play9 kd d l what name h hw hN hnm (fun i h1 h2 e => by omega)
end
end Go.Proofs.Qxb6500766a
