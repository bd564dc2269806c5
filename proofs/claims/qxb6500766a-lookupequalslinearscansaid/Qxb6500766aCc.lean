/- foldindexlaw: sameList of two lists that are alike. -/
import Derived.Test.Qxb6500766aCb
namespace Go.Proofs.Qxb6500766a
open Go.RowKit Go.Qm
set_option linter.unusedVariables false
set_option linter.unusedSimpArgs false
attribute [local go_sem ↓] Go.wp_at_zero Go.wp_at_succ
set_option maxHeartbeats 1000000 in
theorem sameList_c (B1 B2 : Nat) (v1 v2 : Value) (es : List Ent) (w : World) (h1 : EntO B1 w v1 es) (h2 : EntO B2 w v2 es) (hl : es.length ≤ 100000) :
    Calls Try.prog 11 #[v1, v2] w fun e w' => e = .returned (.bool true) ∧ Keep w w' := by
  have SC := same_eq_c B1 B2 0 0 [] v1 v2 es w h1 h2 hl
  obtain ⟨a1, c1, rfl, -, -, -⟩ := ent_read h1
  obtain ⟨a2, c2, rfl, -, -, -⟩ := ent_read h2
  go_enter Try.func11, Try.ntmps11
  go_wp2_with fail
  refine SC.mono ?_
  rintro e w1 ⟨rfl, k1⟩
  go_wp2
  go_ret
  exact ⟨rfl, k1⟩
end Go.Proofs.Qxb6500766a
