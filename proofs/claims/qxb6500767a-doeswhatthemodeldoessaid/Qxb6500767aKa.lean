/- foldkeym: class, fold. -/
import Derived.Test.Qxb6500767aSt
namespace Go.Proofs.Qxb6500767a
open Go.RowKit Go.Qm
set_option linter.unusedVariables false
set_option linter.unusedSimpArgs false
attribute [local go_sem ↓] Go.wp_at_zero Go.wp_at_succ

def classF (r : Int) : Int :=
  if (r == 768) = true then 230 else if (r == 769) = true then 230 else if (r == 770) = true then 230 else if (r == 771) = true then 230 else if (r == 776) = true then 230 else if (r == 778) = true then 230 else
  if (r == 803) = true then 220 else if (r == 807) = true then 202 else 0
theorem class_c (r : Int) (w : World) : Calls Try.prog 106 #[.int .i32 r] w fun e w' => e = .returned (.int .i64 (classF r)) ∧ w' = w := by
  go_enter Try.func106, Try.ntmps106
  go_wp2
  all_goals (go_ret; refine ⟨?_, rfl⟩; simp [classF, *])
def foldF (r : Int) : Int :=
  if 65 ≤ r ∧ r ≤ 90 then r + 32 else if 192 ≤ r ∧ r ≤ 222 ∧ r ≠ 215 then r + 32 else if r = 181 then 956 else if r = 383 then 115 else if r = 8490 then 107 else if r = 8491 then 229 else r
set_option maxHeartbeats 1000000 in
theorem fold_c (r : Int) (w : World) : Calls Try.prog 103 #[.int .i32 r] w fun e w' => e = .returned (.int .i32 (foldF r)) ∧ Keep w w' := by
  unfold foldF
  by_cases h1 : 65 ≤ r ∧ r ≤ 90
  · rw [if_pos h1]
    obtain ⟨h1, h2⟩ := h1
    go_enter Try.func103, Try.ntmps103
    go_wp2_with fail
    go_ret
    exact ⟨rfl, Keep.refl _⟩
  · rw [if_neg h1]
    by_cases h2 : 192 ≤ r ∧ r ≤ 222 ∧ r ≠ 215
    · rw [if_pos h2]
      obtain ⟨h2, h3, h4⟩ := h2
      have e1 : 65 ≤ r := by omega
      have e2 : ¬ r ≤ 90 := by omega
      have e3 : (r != 215) = true := by simpa using h4
      clear h1
      go_enter Try.func103, Try.ntmps103
      go_wp2_with fail
      go_ret
      exact ⟨rfl, Keep.refl _⟩
    · rw [if_neg h2]
      have hc : ¬ 65 ≤ r ∨ (65 ≤ r ∧ ¬ r ≤ 90 ∧ ¬ 192 ≤ r) ∨ r = 215 ∨ (65 ≤ r ∧ ¬ r ≤ 90 ∧ 192 ≤ r ∧ ¬ r ≤ 222) := by omega
      clear h1 h2
      rcases hc with e1 | ⟨e1, e2, e3⟩ | rfl | ⟨e1, e2, e3, e4⟩
      · have e2 : ¬ 192 ≤ r := by omega
        go_enter Try.func103, Try.ntmps103
        go_wp2
        all_goals (go_ret; refine ⟨?_, Keep.refl _⟩; simp_all)
      · go_enter Try.func103, Try.ntmps103
        go_wp2
        all_goals (go_ret; refine ⟨?_, Keep.refl _⟩; simp_all)
      · go_enter Try.func103, Try.ntmps103
        go_wp2
        go_ret
        exact ⟨rfl, Keep.refl _⟩
      · go_enter Try.func103, Try.ntmps103
        go_wp2
        all_goals (go_ret; refine ⟨?_, Keep.refl _⟩; simp_all)
end Go.Proofs.Qxb6500767a
