/- interpm: Eval. -/
import Derived.Test.Qxb6500772aUc
import Derived.Test.Qxb6500772aUd
import Derived.Test.Qxb6500772aUe
import Derived.Test.Qxb6500772aUf
import Derived.Test.Qxb6500772aUg
import Derived.Test.Qxb6500772aUh
import Derived.Test.Qxb6500772aUi
import Derived.Test.Qxb6500772aUj
namespace Go.Proofs.Qxb6500772a
open Go.RowKit Go.Qm
set_option linter.unusedVariables false
theorem wt_kind {ws : List Int} {f : EF} {ks : List Int} (h : wtOne ws f ks) : f.k = 0 ∨ f.k = 1 ∨ f.k = 2 ∨ f.k = 3 ∨ f.k = 4 ∨ (f.k = 5 ∧ 5 ≤ f.o ∧ f.o ≤ 18) ∨ f.k = 6 := by
  obtain ⟨-, h⟩ := h
  rcases h with ⟨a, -⟩ | ⟨a, -⟩ | ⟨a, -⟩ | ⟨a, -⟩ | ⟨a, -⟩ | ⟨a, x, -, b⟩ | ⟨a, -⟩
  · exact Or.inl a
  · exact Or.inr (Or.inl a)
  · exact Or.inr (Or.inr (Or.inl a))
  · exact Or.inr (Or.inr (Or.inr (Or.inl a)))
  · exact Or.inr (Or.inr (Or.inr (Or.inr (Or.inl a))))
  · exact Or.inr (Or.inr (Or.inr (Or.inr (Or.inr (Or.inl ⟨a, by omega, by omega⟩)))))
  · exact Or.inr (Or.inr (Or.inr (Or.inr (Or.inr (Or.inr a)))))
theorem eval_n {P : Nat → Prop} {ws : List Int} : ∀ (N : Nat) (f : EF) (t : EL), t.size = N → EvC P ws f t := by
  intro N
  induction N using Nat.strongRecOn with
  | _ N ih =>
    intro f t hN
    have IH : ∀ x ∈ t.toL, EvC P ws x.1 x.2 := fun x hx => ih x.2.size (by rw [← hN]; exact EL.mem_size hx) x.1 x.2 rfl
    intro w v rows sv S hf hr he hwt hwo hsv hS
    rcases wt_kind hwo with k | k | k | k | k | ⟨k, o1, o2⟩ | k
    · exact ev_k0 IH k w v rows sv S hf hr he hwt hwo hsv hS
    · exact ev_k1 IH k w v rows sv S hf hr he hwt hwo hsv hS
    · exact ev_k2 IH k w v rows sv S hf hr he hwt hwo hsv hS
    · exact ev_k3 IH k w v rows sv S hf hr he hwt hwo hsv hS
    · exact ev_k4 IH k w v rows sv S hf hr he hwt hwo hsv hS
    · by_cases h7 : f.o ≤ 7
      · exact ev_k5a IH k ⟨by omega, by omega⟩ w v rows sv S hf hr he hwt hwo hsv hS
      by_cases h10 : f.o ≤ 10
      · exact ev_k5b IH k ⟨by omega, by omega⟩ w v rows sv S hf hr he hwt hwo hsv hS
      by_cases h12 : f.o ≤ 12
      · exact ev_k5c IH k ⟨by omega, by omega⟩ w v rows sv S hf hr he hwt hwo hsv hS
      by_cases h15 : f.o ≤ 15
      · exact ev_k5d IH k ⟨by omega, by omega⟩ w v rows sv S hf hr he hwt hwo hsv hS
      · exact ev_k5e IH k ⟨by omega, by omega⟩ w v rows sv S hf hr he hwt hwo hsv hS
    · exact ev_k6 IH k w v rows sv S hf hr he hwt hwo hsv hS
theorem eval_i {P : Nat → Prop} {ws : List Int} (f : EF) (t : EL) : EvC P ws f t := eval_n t.size f t rfl
end Go.Proofs.Qxb6500772a
