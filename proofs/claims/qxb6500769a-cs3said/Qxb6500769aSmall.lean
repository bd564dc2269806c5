/- zzSmall1. -/
import Derived.Test.Qxb6500769aScript
namespace Go.Proofs.Qxb6500769a
open Go.RowKit Go.Qm
set_option linter.unusedVariables false
set_option linter.unusedSimpArgs false

def OpSmall (s : OpR) (m : Int) : Prop := (s.key.length : Int) ≤ m ∧ (s.iv.length : Int) ≤ m ∧ (s.data.length : Int) ≤ m ∧ (s.label.length : Int) ≤ m ∧ (s.context.length : Int) ≤ m

set_option maxHeartbeats 2000000 in
theorem small_c (v : Value) (ss : List OpR) (w : World) (h : Script w v ss) :
    Calls Try.prog 7 #[v] w fun e w' => (∃ b, e = .returned (.bool b) ∧ (b = true → ss.length ≤ 65536 ∧ ∀ s ∈ ss, OpSmall s 65536)) ∧ Keep w w' := by
  obtain ⟨a, c, rfl, hac, hcm, hca⟩ := h
  unfold maxLen at hcm
  by_cases hbig : (ss.length : Int) > 65536
  · go_enter Try.func7, Try.ntmps7
    go_wp2
    go_ret
    exact ⟨⟨false, rfl, by simp⟩, Keep.refl _⟩
  · go_enter Try.func7, Try.ntmps7
    go_wp2
    go_loop [3, 4] (fun nv iv => ∃ (k : Nat) (m : Int), k ≤ ss.length ∧ iv = .int .i64 k ∧ nv = .int .i64 m ∧ 0 ≤ m ∧ m ≤ 65536 ∧ ∀ j (hj : j < k) (hk : k ≤ ss.length), OpSmall (ss[j]'(by omega)) m) (fun _ i => ss.length - (intOf i).toNat)
    case atStart => exact ⟨0, _, by omega, rfl, rfl, by omega, by omega, fun j hj => by omega⟩
    case round =>
      obtain ⟨k, m, hk, rfl, rfl, hm0, hm1, hall⟩ := hrel
      by_cases hlt : k < ss.length
      · obtain ⟨b, o, rfl, hop⟩ := hca k hlt
        have c3 := hop.c3
        obtain ⟨a3, v3, e3, _, _, _⟩ := hop.b3.form
        rw [e3] at c3
        have l3 := hop.l3
        have c4 := hop.c4
        obtain ⟨a4, v4, e4, _, _, _⟩ := hop.b4.form
        rw [e4] at c4
        have l4 := hop.l4
        have c5 := hop.c5
        obtain ⟨a5, v5, e5, _, _, _⟩ := hop.b5.form
        rw [e5] at c5
        have l5 := hop.l5
        have c6 := hop.c6
        obtain ⟨a6, v6, e6, _, _, _⟩ := hop.b6.form
        rw [e6] at c6
        have l6 := hop.l6
        have c7 := hop.c7
        obtain ⟨a7, v7, e7, _, _, _⟩ := hop.b7.form
        rw [e7] at c7
        have l7 := hop.l7
        unfold reachBytes at l3 l4 l5 l6 l7
        have i1 : (k : Int) < ss.length := by omega
        have j3 : (ss[k].key.length : Int) ≤ 140737488351232 := by omega
        have j4 : (ss[k].iv.length : Int) ≤ 140737488351232 := by omega
        have j5 : (ss[k].data.length : Int) ≤ 140737488351232 := by omega
        have j6 : (ss[k].label.length : Int) ≤ 140737488351232 := by omega
        have j7 : (ss[k].context.length : Int) ≤ 140737488351232 := by omega
        have HA := Hid.mk hall
        clear hop l3 e3 l4 e4 l5 e5 l6 e6 l7 e7 hca hall
        by_cases b0 : m + (ss[k].key.length : Int) > 65536
        · go_wp2
          go_ret
          exact ⟨Or.inl rfl, Keep.refl _⟩
        by_cases b1 : m + (ss[k].key.length : Int) + (ss[k].iv.length : Int) > 65536
        · go_wp2
          go_ret
          exact ⟨Or.inl rfl, Keep.refl _⟩
        by_cases b2 : m + (ss[k].key.length : Int) + (ss[k].iv.length : Int) + (ss[k].data.length : Int) > 65536
        · go_wp2
          go_ret
          exact ⟨Or.inl rfl, Keep.refl _⟩
        by_cases b3 : m + (ss[k].key.length : Int) + (ss[k].iv.length : Int) + (ss[k].data.length : Int) + (ss[k].label.length : Int) > 65536
        · go_wp2
          go_ret
          exact ⟨Or.inl rfl, Keep.refl _⟩
        by_cases b4 : m + (ss[k].key.length : Int) + (ss[k].iv.length : Int) + (ss[k].data.length : Int) + (ss[k].label.length : Int) + (ss[k].context.length : Int) > 65536
        · go_wp2
          go_ret
          exact ⟨Or.inl rfl, Keep.refl _⟩
        go_wp2
        go_round
        case rel =>
          refine ⟨k + 1, _, by omega, by go_num, rfl, by omega, by omega, fun j hj hk2 => ?_⟩
          by_cases hjk : j = k
          · subst hjk; unfold OpSmall; omega
          · have := HA.out j (by omega) hk; unfold OpSmall at this ⊢; omega
        case measure => simp [intOf]; omega
      · have i1 : ¬ (k : Int) < ss.length := by omega
        have hkl : k = ss.length := by omega
        have hall2 : ∀ s ∈ ss, OpSmall s 65536 := fun s hs => by
          obtain ⟨j, hj, rfl⟩ := List.getElem_of_mem hs
          have := hall j (by omega) hk
          unfold OpSmall at this ⊢
          omega
        clear hall
        go_wp2
        go_ret
        exact ⟨Or.inr ⟨rfl, by omega, hall2⟩, Keep.refl _⟩
end Go.Proofs.Qxb6500769a
