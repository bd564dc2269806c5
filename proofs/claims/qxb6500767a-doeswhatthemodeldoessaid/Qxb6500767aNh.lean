/- unionvfs: the flags of the handles (plain). -/
import Derived.Test.Qxb6500767aNg
namespace Go.Proofs.Qxb6500767a
open Go.RowKit Go.Qm
set_option linter.unusedVariables false
set_option linter.unusedSimpArgs false
def FG (x : Hd) : Prop := 0 ≤ x.flags ∧ x.flags ≤ 127 ∧ (bt x.flags 2 = true → x.dir = false)
def FL (hs : List Hd) : Prop := ∀ n, FG (hat hs n)
theorem fg0 : FG hd0 := ⟨by decide, by decide, fun _ => rfl⟩
theorem FL.set {hs : List Hd} (h : FL hs) (i : Nat) {x : Hd} (hx : FG x) : FL (hs.set i x) := fun n => by
  by_cases e : i = n
  · subst e
    rcases Nat.lt_or_ge i hs.length with a | a
    · rw [hat_set a]; exact hx
    · rw [List.set_eq_of_length_le a]; exact h i
  · rw [hat_set_ne e]; exact h n
theorem chk_fl {fl m : Int} (h : chkF fl m = 0) (h1 : -9223372036854775808 ≤ fl) (h2 : fl ≤ 9223372036854775807) : 0 ≤ fl ∧ fl ≤ 127 := by
  unfold chkF at h
  split at h
  · cases h
  · next a =>
    unfold chkB at a
    rw [fl_ok h1 h2] at a
    simp only [Bool.or_eq_true, not_or, Bool.not_eq_true, Bool.not_eq_false', Bool.and_eq_true, decide_eq_true_eq] at a
    exact a.1
theorem adm_dir {x : Nd} {f : Int} (h : admF x f = 0) : x.kind = 2 → nob f 2 = true := by
  intro hk
  unfold admF at h
  cases hn : nob f 2 with
  | true => rfl
  | false =>
    rw [hn] at h
    simp only [hk, true_and] at h
    split at h <;> simp at h
theorem FL.op {hs : List Hd} (h : FL hs) {k u : Nat} {T : List Nd} (si : SI k u hs T) (path : List UInt8) {fl : Int} (hf : -9223372036854775808 ≤ fl ∧ fl ≤ 9223372036854775807) (mode : Int) : FL (opF u hs T path fl mode).2.1 := by
  unfold opF
  split
  · exact h
  · next a =>
    have hr := chk_fl (Decidable.not_not.1 a) hf.1 hf.2
    have R := flR hr.1 hr.2
    split
    · exact h
    · next n hn =>
      split
      · next b =>
        split
        · exact h
        · next c =>
          have M := make_ti si.t path (kd := 1) (by decide) mode (data := []) (fun a => by cases a)
          obtain ⟨m1, m2, m3, m4, m5⟩ := M.2.2.2.2 (by simpa using c)
          refine h.set n ⟨R.r0, R.r1, fun _ => ?_⟩
          simp only
          rw [m1, m4]
          decide
      · split
        · exact h
        · split
          · exact h
          · next c =>
            refine h.set n ⟨R.r0, R.r1, fun e => ?_⟩
            simp only at e
            rw [R.b2] at e
            have := adm_dir (Decidable.not_not.1 c)
            apply decide_eq_false
            intro hk
            have h2 : (at' T (pathF T path true).1).kind = 2 := by
              split at hk
              · rw [(res_at T (si.t.lt (path_live si.t path true).1) 0 (pathF T path true).1).1] at hk; exact hk
              · exact hk
            have := this h2
            unfold bt at e
            rw [this] at e
            simp at e
theorem play_fl {k : Nat} {s : Stt} (h : FL s.hs) (si : SI k s.u s.hs s.T) {o : OpV} (hr : -9223372036854775808 ≤ o.flags ∧ o.flags ≤ 9223372036854775807) : FL (playF s o).2.hs := by
  rcases kinds o.kind with hk | hk | hk | hk | hk | hk | hk | hk | hk | hk | hk | hk | hk | hk | hk | hk | hk | hk | hk | hk | hk | hk
  · rw [playF0 hk]; exact h
  · rw [playF1 hk]; exact h.op si _ hr _
  · rw [playF2 hk]
    simp only
    unfold clsF
    split
    · exact h
    · exact h.set _ fg0
  · rw [playF3 hk]
    simp only
    unfold rdF
    repeat' split
    all_goals first | exact h | exact h.set _ (h _)
  · rw [playF4 hk]; exact h
  · rw [playF5 hk]
    simp only
    unfold wrF
    repeat' split
    all_goals first | exact h | exact h.set _ (h _)
  · rw [playF6 hk]
    simp only
    unfold skF
    repeat' split
    all_goals first | exact h | exact h.set _ (h _)
  · rw [playF7 hk]; exact h
  · rw [playF8 hk]; exact h
  · rw [playF9 hk]; exact h
  · rw [playF10 hk]
    simp only
    unfold rddF
    repeat' split
    all_goals first | exact h | exact h.set _ (h _)
  · rw [playF11 hk]; exact h
  · rw [playF12 hk]; exact h
  · rw [playF13 hk]; exact h
  · rw [playF14 hk]; exact h
  · rw [playF15 hk]; exact h
  · rw [playF16 hk]; exact h
  · rw [playF17 hk]; exact h
  · rw [playF18 hk]; exact h
  · rw [playF19 hk]; exact h
  · rw [playF20 hk]; exact h
  · rw [playF21 hk]; exact h
theorem fl0 : FL st0.hs := fun n => by
  have : hat st0.hs n = hd0 := by
    show (List.replicate 32 hd0).getD n hd0 = hd0
    rw [List.getD_eq_getElem?_getD, List.getElem?_replicate]
    split <;> rfl
  rw [this]
  exact fg0
end Go.Proofs.Qxb6500767a
