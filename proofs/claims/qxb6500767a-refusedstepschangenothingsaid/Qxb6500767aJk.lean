/- unionvfslaw: RefusedStepsChangeNothing. -/
import Derived.Test.Qxb6500767aJi
import Derived.Test.Qxb6500767aJf
namespace Go.Proofs.Qxb6500767a
open Go.RowKit Go.Qm
theorem refusedL_c (v : Value) (ss : List OpV) (w : World) (h : Script w v ss) (hr : ∀ s ∈ ss, -9223372036854775808 ≤ s.mode ∧ s.mode ≤ 9223372036854775807) : Calls Try.prog 4 #[v] w fun e w' => e = .returned (.bool true) ∧ Keep w w' :=
  refused_c (fun gt T w h b => dump_c gt T w h b) v ss w h hr
end Go.Proofs.Qxb6500767a
