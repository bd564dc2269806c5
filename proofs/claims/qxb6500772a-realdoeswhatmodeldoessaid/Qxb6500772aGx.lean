/- blastlaw: step. -/
import Derived.Test.Qxb6500772aGr
import Derived.Test.Qxb6500772aGt
import Derived.Test.Qxb6500772aGv
import Derived.Test.Qxb6500772aGw
namespace Go.Proofs.Qxb6500772a
open Go Go.RowKit Go.Qm
theorem step_c {B gb k : Nat} {w : World} {K A Bf Cf D : Int} (h : BSt B gb k w) (hk2 : k ≤ 80000) (hA : I64 A) (hB : I64 Bf) (hC : I64 Cf) (hD : I64 D) : Calls Try.prog 22 #[.pointer (some ⟨gb, 0, none⟩), .agg #[.int .i64 K, .int .i64 A, .int .i64 Bf, .int .i64 Cf, .int .i64 D]] w (StepO B gb k w) := by
  obtain ⟨P, cv, xv, sv, pv, nv, cels, es, ss, bad, cu, nx, cf, nf, hb, bd⟩ := h
  by_cases d0 : K = 0
  · subst d0; exact step_0 hb bd hk2 hA hB hC hD
  by_cases d1 : K = 1
  · subst d1; exact step_1 hb bd hk2 hA hB hC hD
  by_cases d2 : K = 2
  · subst d2; exact step_2 hb bd hk2 hA hB hC hD
  by_cases d3 : K = 3
  · subst d3; exact step_3 hb bd hk2 hA hB hC hD
  by_cases d4 : K = 4
  · subst d4; exact step_4 hb bd hk2 hA hB hC hD
  by_cases d5 : K = 5
  · subst d5; exact step_5 hb bd hk2 hA hB hC hD
  by_cases d6 : K = 6
  · subst d6; exact step_6 hb bd hk2 hA hB hC hD
  by_cases d7 : K = 7
  · subst d7; exact step_7 hb bd hk2 hA hB hC hD
  by_cases d8 : K = 8
  · subst d8; exact step_8 hb bd hk2 hA hB hC hD
  by_cases d9 : K = 9
  · subst d9; exact step_9 hb bd hk2 hA hB hC hD
  by_cases d10 : K = 10
  · subst d10; exact step_10 hb bd hk2 hA hB hC hD
  by_cases d11 : K = 11
  · subst d11; exact step_11 hb bd hk2 hA hB hC hD
  by_cases d12 : K = 12
  · subst d12; exact step_12 hb bd hk2 hA hB hC hD
  by_cases d13 : K = 13
  · subst d13; exact step_13 hb bd hk2 hA hB hC hD
  by_cases d14 : K = 14
  · subst d14; exact step_14 hb bd hk2 hA hB hC hD
  by_cases d15 : K = 15
  · subst d15; exact step_15 hb bd hk2 hA hB hC hD
  by_cases d16 : K = 16
  · subst d16; exact step_16 hb bd hk2 hA hB hC hD
  by_cases d17 : K = 17
  · subst d17; exact step_17 hb bd hk2 hA hB hC hD
  by_cases d18 : K = 18
  · subst d18; exact step_18 hb bd hk2 hA hB hC hD
  exact step_x hb bd hk2 hA hB hC hD d0 d1 d2 d3 d4 d5 d6 d7 d8 d9 d10 d11 d12 d13 d14 d15 d16 d17 d18
end Go.Proofs.Qxb6500772a
