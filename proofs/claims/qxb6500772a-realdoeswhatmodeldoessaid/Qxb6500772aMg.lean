/- Slices of structs in a block of their own: more. -/
import Derived.Test.Qxb6500772aFr
namespace Go.Qm
open Go Go.RowKit
set_option linter.unusedVariables false
section
variable {α : Type} {f : α → List Value} {sz : Nat} {e : TypeId} {B : Nat} {w w' : World} {v : Value} {l : List α}
theorem OwnS.of {g cap : Nat} {cur : List Value} (hf : ∀ x, (f x).length = sz) (hB : B ≤ g) (hA : Arr w g e cur) (hl : l.length ≤ cap) (hm : cap ≤ maxLen) (hc : cur.length = cap * sz) (ht : cur.take (l.length * sz) = l.flatMap f) : OwnS f sz e B w (.slice (some ⟨g, 0, none⟩) l.length cap) l :=
  ⟨flat_length f sz hf l, Or.inr ⟨g, cap, cur.toArray, rfl, hB, hA, hl, hm, by simpa using hc, by simpa using ht⟩⟩
theorem flat_set (hf : ∀ x, (f x).length = sz) : ∀ (l : List α) (i j : Nat) (hi : i < l.length) (hj : j < sz) (x' : α) (u : Value), f x' = (f l[i]).set j u → (l.flatMap f).set (i * sz + j) u = (l.set i x').flatMap f
  | [], i, j, hi, _, _, _, _ => by simp at hi
  | y :: l, 0, j, hi, hj, x', u, hx => by
    simp only [List.getElem_cons_zero] at hx
    rw [List.set_cons_zero, List.flatMap_cons, List.flatMap_cons, hx, Nat.zero_mul, Nat.zero_add, List.set_append_left _ _ (by rw [hf]; exact hj)]
  | y :: l, i + 1, j, hi, hj, x', u, hx => by
    simp only [List.getElem_cons_succ] at hx
    rw [List.set_cons_succ, List.flatMap_cons, List.flatMap_cons, List.set_append_right _ _ (by rw [hf, Nat.add_mul]; omega), hf, show (i + 1) * sz + j - sz = i * sz + j by rw [Nat.add_mul]; omega, flat_set hf l i j (by simpa using hi) hj x' u hx]
theorem OwnS.fr {P : Nat → Prop} (h : OwnS f sz e B w v l) (k : Fr P w w') (hp : ∀ q, v.ownBlock = some q → ¬ P q) : OwnS f sz e B w' v l := by
  refine ⟨h.1, ?_⟩
  rcases h.2 with hn | ⟨g, cap, cur, hv, hb, hg, rest⟩
  · exact Or.inl hn
  · exact Or.inr ⟨g, cap, cur, hv, hb, k.heap (hp g (by rw [hv]; rfl)) hg, rest⟩
theorem Own.fr {xs : List Value} {P : Nat → Prop} (h : Own B e w v xs) (k : Fr P w w') (hp : ∀ q, v.ownBlock = some q → ¬ P q) : Own B e w' v xs := by
  refine ⟨h.1, ?_⟩
  rcases h.2 with hn | ⟨g, cap, cur, hv, hb, hg, rest⟩
  · exact Or.inl hn
  · exact Or.inr ⟨g, cap, cur, hv, hb, k.heap (hp g (by rw [hv]; rfl)) hg, rest⟩
/-- A cell of one element turns. -/
theorem OwnS.setc (h : OwnS f sz e B w v l) (hf : ∀ x, (f x).length = sz) {i j : Nat} (hi : i < l.length) (hj : j < sz) (x' : α) (u : Value) (hx : f x' = (f l[i]).set j u) {g : Nat} (hg : v.ownBlock = some g) : OwnS f sz e B (w.setCell ⟨g, i * sz + j, none⟩ u) v (l.set i x') := by
  rcases h.form with ⟨rfl, rfl⟩ | ⟨g', cap, cur, rfl, hB, hA, hc, hm, hl, ht⟩
  · simp at hi
  · have e1 : g' = g := by simpa [Value.ownBlock] using hg
    subst e1
    have hlt : i * sz + j < l.length * sz := by
      have : (i + 1) * sz ≤ l.length * sz := Nat.mul_le_mul_right sz hi
      rw [Nat.add_mul] at this
      omega
    have := OwnS.of (f := f) (l := l.set i x') (cap := cap) hf hB (hA.set (i * sz + j) u) (by simpa using hc) hm (by simpa using hl) (by
      rw [List.length_set, List.take_set, ht]
      exact flat_set hf l i j hi hj x' u hx)
    rwa [List.length_set] at this
end
end Go.Qm
