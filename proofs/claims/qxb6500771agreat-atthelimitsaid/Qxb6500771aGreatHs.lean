/- digestm: Hash. -/
import Derived.Test.Qxb6500771aGreatSha384
import Derived.Test.Qxb6500771aGreatSm
namespace Go.Proofs.Qxb6500771aGreat
open Go.RowKit Go.Qm
set_option linter.unusedVariables false
set_option linter.unusedSimpArgs false
attribute [local go_sem ↓] Go.wp_at_zero Go.wp_at_succ
/-- What digestm.Hash computes. -/
def hsh (h : Nat) (l : List UInt8) : List UInt8 := if h = 1 then sha1 l else if h = 2 then sha256 l else sha384 l
theorem hsh_length (h : Nat) (l : List UInt8) (h1 : 1 ≤ h) (h5 : h ≤ 3) : (hsh h l).length = hsz h := by
  match h, h1, h5 with
  | 1, _, _ => exact be4s_length _ _
  | 2, _, _ => exact out256_length _ _
  | 3, _, _ => exact out384_length _ _
theorem hash_c (h : Nat) (v : Value) (l : List UInt8) (w : World) (hb : Bs w v l) (hl : l.length ≤ 4000000) (h1 : 1 ≤ h) (h5 : h ≤ 3) :
    Calls Tryz.prog 95 #[.int .i64 h, v] w fun e w' => ∃ v', e = .returned v' ∧ Own w.heap.size 5 w' v' ((hsh h l).map cb) ∧ Keep w w' := by
  go_enter Tryz.func95, Tryz.ntmps95
  match h, h1, h5 with
  | 1, _, _ =>
    go_wp2_with fail
    refine (sha1_c v l w hb hl).mono ?_
    rintro e w1 ⟨v1, rfl, o1, k1⟩
    go_wp2; go_ret; exact ⟨_, rfl, o1, k1⟩
  | 2, _, _ =>
    go_wp2_with fail
    refine (sha256_c v l w hb hl).mono ?_
    rintro e w1 ⟨v1, rfl, o1, k1⟩
    go_wp2; go_ret; exact ⟨_, rfl, o1, k1⟩
  | 3, _, _ =>
    go_wp2_with fail
    refine (sha384_c v l w hb hl).mono ?_
    rintro e w1 ⟨v1, rfl, o1, k1⟩
    go_wp2; go_ret; exact ⟨_, rfl, o1, k1⟩
end Go.Proofs.Qxb6500771aGreat
