/- zzSmall1. -/
import Derived.Test.Qxb6500771aGreatScript
namespace Go.Proofs.Qxb6500771aGreat
open Go.RowKit Go.Qm
set_option linter.unusedVariables false
set_option linter.unusedSimpArgs false

def OpSmall (s : OpR) (m : Int) : Prop := (s.key.length : Int) ≤ m ∧ (s.conf.length : Int) ≤ m ∧ (s.data.length : Int) ≤ m

set_option maxHeartbeats 1000000 in
theorem small_c (v : Value) (ss : List OpR) (w : World) (h : Script w v ss) :
    Calls Tryz.prog 6 #[v] w fun e w' => (∃ b, e = .returned (.bool b) ∧ (b = true → ss.length ≤ 65536 ∧ ∀ s ∈ ss, OpSmall s 65536)) ∧ Keep w w' := by
  obtain ⟨a, c, rfl, hac, hcm, hca⟩ := h
  unfold maxLen at hcm
  by_cases hbig : (ss.length : Int) > 65536
  · go_enter Tryz.func6, Tryz.ntmps6
    go_wp2
    go_ret
    exact ⟨⟨false, rfl, by simp⟩, Keep.refl _⟩
  · go_enter Tryz.func6, Tryz.ntmps6
    go_wp2
    go_loop [3, 4] (fun nv iv => ∃ (k : Nat) (m : Int), k ≤ ss.length ∧ iv = .int .i64 k ∧ nv = .int .i64 m ∧ 0 ≤ m ∧ m ≤ 65536 ∧ ∀ j (hj : j < k) (hk : k ≤ ss.length), OpSmall (ss[j]'(by omega)) m) (fun _ i => ss.length - (intOf i).toNat)
    case atStart => exact ⟨0, _, by omega, rfl, rfl, by omega, by omega, fun j hj => by omega⟩
    case round =>
      obtain ⟨k, m, hk, rfl, rfl, hm0, hm1, hall⟩ := hrel
      by_cases hlt : k < ss.length
      · obtain ⟨b, o, rfl, hop⟩ := hca k hlt
        have c2 := hop.c2
        have c9 := hop.c9
        have c10 := hop.c10
        obtain ⟨a2, v2, e2, _, _, _⟩ := hop.b2.form
        obtain ⟨a9, v9, e9, _, _, _⟩ := hop.b9.form
        obtain ⟨a10, v10, e10, _, _, _⟩ := hop.b10.form
        rw [e2] at c2
        rw [e9] at c9
        rw [e10] at c10
        have l2 := hop.l2
        have l9 := hop.l9
        have l10 := hop.l10
        unfold reachBytes at l2 l9 l10
        have i1 : (k : Int) < ss.length := by omega
        have i2 : (ss[k].key.length : Int) ≤ 140737488351232 := by omega
        have i9 : (ss[k].conf.length : Int) ≤ 140737488351232 := by omega
        have i10 : (ss[k].data.length : Int) ≤ 140737488351232 := by omega
        have HA := Hid.mk hall
        clear hop l2 l9 l10 e2 e9 e10 hca hall
        by_cases b1 : m + (ss[k].key.length : Int) > 65536
        · go_wp2
          go_ret
          exact ⟨Or.inl rfl, Keep.refl _⟩
        by_cases b2 : m + (ss[k].key.length : Int) + (ss[k].conf.length : Int) > 65536
        · go_wp2
          go_ret
          exact ⟨Or.inl rfl, Keep.refl _⟩
        by_cases b3 : m + (ss[k].key.length : Int) + (ss[k].conf.length : Int) + (ss[k].data.length : Int) > 65536
        · go_wp2
          go_ret
          exact ⟨Or.inl rfl, Keep.refl _⟩
        go_wp2
        go_round
        case rel =>
          refine ⟨k + 1, _, by omega, by go_num, rfl, by omega, by omega, fun j hj hk2 => ?_⟩
          by_cases hjk : j = k
          · subst hjk; unfold OpSmall; omega
          · have := HA.out j (by omega) hk; unfold OpSmall at this ⊢; omega
        case measure => simp [intOf]; omega
      · have i1 : ¬ (k : Int) < ss.length := by omega
        have hkl : k = ss.length := by omega
        have hall2 : ∀ s ∈ ss, OpSmall s 65536 := fun s hs => by
          obtain ⟨j, hj, rfl⟩ := List.getElem_of_mem hs
          have := hall j (by omega) hk
          unfold OpSmall at this ⊢
          omega
        clear hall
        go_wp2
        go_ret
        exact ⟨Or.inr ⟨rfl, by omega, hall2⟩, Keep.refl _⟩
end Go.Proofs.Qxb6500771aGreat
