/- foldindex: drop of a key that is not there. -/
import Derived.Test.Qxb6500766aTq
import Derived.Test.Qxb6500766aTb
namespace Go.Proofs.Qxb6500766a
open Go.RowKit Go.Qm
set_option linter.unusedVariables false
set_option linter.unusedSimpArgs false
attribute [local go_sem ↓] Go.wp_at_zero Go.wp_at_succ
set_option maxRecDepth 2000 in
set_option maxHeartbeats 2000000 in
theorem drop_none_c (g o b n : Nat) (ss : List Slot) (key : List UInt8) (layer : Int) (raw : List UInt8) (w : World) (hc : w.cell? ⟨g, o, none⟩ = some (.slice (some ⟨b, 0, none⟩) n n)) (hS : Slots w b ss) (hn : n = ss.length) (tv : TV ss) (hk : key.length ≤ 1000000)
    (habs : ∀ i, i < ss.length → (sl ss i).st = 1 → (sl ss i).key ≠ key) : Calls Try.prog 47 #[.pointer (some ⟨g, o, none⟩), str key, .int .i64 layer, str raw] w fun e w' => e = .returned (.tuple #[]) ∧ w' = w := by
  obtain ⟨m, hm3, hm20, hmn⟩ := tv.pow
  rcases find_spec tv key with ⟨i, hi, -, he1, he2⟩ | ⟨j, hj, hfj, -⟩
  · exact absurd he2 (habs i hi he1)
  have FC := find_c g o b n m ss key (hashB key) w hc hS hn (hn.trans hmn) hm20 (hashB_lt key)
  rw [hfj] at FC
  simp only at FC
  clear hn hmn
  go_enter Try.func47, Try.ntmps47
  go_wp2_with fail
  refine (hashKey_c key _ hk).mono ?_
  rintro r w2 ⟨rfl, rfl⟩
  generalize hashB key = hh at *
  go_wp2_with fail
  refine FC.mono ?_
  rintro r w2 ⟨rfl, rfl⟩
  go_wp2_with fail
  exact bodyPost_ret (results_none rfl _ _ _) rfl ⟨rfl, rfl⟩
end Go.Proofs.Qxb6500766a
