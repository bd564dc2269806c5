/- Small tests: ranges. -/
import Derived.Test.Qxb6500766aSt
namespace Go.Proofs.Qxb6500766a
open Go.RowKit Go.Qm
set_option linter.unusedVariables false
set_option linter.unusedSimpArgs false
attribute [local go_sem ↓] Go.wp_at_zero Go.wp_at_succ
def dirB (d : Int) : Bool := decide (0 ≤ d) && decide (d < 24)
def layB (d : Int) : Bool := decide (0 ≤ d) && decide (d < 8)
theorem validDir_c (d : Int) (w : World) : Calls Try.prog 39 #[.int .i64 d] w fun e w' => e = .returned (.bool (dirB d)) ∧ w' = w := by
  unfold dirB
  go_enter Try.func39, Try.ntmps39
  by_cases h : 0 ≤ d
  · rw [decide_eq_true h, Bool.true_and]
    go_wp2_with fail
    go_ret
    exact ⟨rfl, rfl⟩
  · rw [decide_eq_false h, Bool.false_and]
    go_wp2_with fail
    go_ret
    exact ⟨rfl, rfl⟩
theorem dirOK_c (d : Int) (w : World) : Calls Try.prog 36 #[.int .i64 d] w fun e w' => e = .returned (.bool (dirB d)) ∧ w' = w := by
  unfold dirB
  go_enter Try.func36, Try.ntmps36
  by_cases h : 0 ≤ d
  · rw [decide_eq_true h, Bool.true_and]
    go_wp2_with fail
    go_ret
    exact ⟨rfl, rfl⟩
  · rw [decide_eq_false h, Bool.false_and]
    go_wp2_with fail
    go_ret
    exact ⟨rfl, rfl⟩
theorem layerOK_c (d : Int) (w : World) : Calls Try.prog 55 #[.int .i64 d] w fun e w' => e = .returned (.bool (layB d)) ∧ w' = w := by
  unfold layB
  go_enter Try.func55, Try.ntmps55
  by_cases h : 0 ≤ d
  · rw [decide_eq_true h, Bool.true_and]
    go_wp2_with fail
    go_ret
    exact ⟨rfl, rfl⟩
  · rw [decide_eq_false h, Bool.false_and]
    go_wp2_with fail
    go_ret
    exact ⟨rfl, rfl⟩
theorem inRange_c (d l : Int) (w : World) : Calls Try.prog 45 #[.int .i64 d, .int .i64 l] w fun e w' => e = .returned (.bool (dirB d && layB l)) ∧ w' = w := by
  unfold dirB layB
  go_enter Try.func45, Try.ntmps45
  by_cases h : 0 ≤ d
  · by_cases h2 : d < 24
    · by_cases h3 : 0 ≤ l
      · rw [decide_eq_true h, decide_eq_true h2, decide_eq_true h3, Bool.true_and, Bool.true_and, Bool.true_and]
        go_wp2_with fail
        go_ret
        exact ⟨rfl, rfl⟩
      · rw [decide_eq_true h, decide_eq_true h2, decide_eq_false h3, Bool.true_and, Bool.true_and, Bool.false_and]
        go_wp2_with fail
        go_ret
        exact ⟨rfl, rfl⟩
    · rw [decide_eq_true h, decide_eq_false h2, Bool.true_and, Bool.false_and]
      go_wp2_with fail
      go_ret
      exact ⟨rfl, rfl⟩
  · rw [decide_eq_false h, Bool.false_and, Bool.false_and]
    go_wp2_with fail
    go_ret
    exact ⟨rfl, rfl⟩
end Go.Proofs.Qxb6500766a
