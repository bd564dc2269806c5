/- Slices of structs that lie in a block of their own. -/
import Derived.Test.Qxb6500772aMx
import Derived.Deep.LoopGhost
namespace Go.Qm
open Go Go.RowKit
/-- The slice v owns its block; its elements are l, each of sz cells. -/
def OwnS {α : Type} (f : α → List Value) (sz : Nat) (e : TypeId) (B : Nat) (w : World) (v : Value) (l : List α) : Prop := w.ownsRow B e sz v l.length (l.flatMap f)
section
variable {α : Type} {f : α → List Value} {sz : Nat} {e : TypeId} {B : Nat} {w w' : World} {v : Value} {l : List α}
theorem OwnS.nil (f : α → List Value) (sz : Nat) (e : TypeId) (B : Nat) (w : World) : OwnS f sz e B w (.slice none 0 0) ([] : List α) := World.ownsRow_nil _ _ _ _
theorem OwnS.form (h : OwnS f sz e B w v l) : (v = .slice none 0 0 ∧ l = []) ∨ ∃ g cap cur, v = .slice (some ⟨g, 0, none⟩) l.length cap ∧ B ≤ g ∧ Arr w g e cur ∧ l.length ≤ cap ∧ cap ≤ maxLen ∧ cur.length = cap * sz ∧ cur.take (l.length * sz) = l.flatMap f := by
  rcases h.2 with ⟨hv, h0⟩ | ⟨g, cap, cur, hv, hB, hg, hnc, hm, hs, ht⟩
  · exact Or.inl ⟨hv, List.eq_nil_of_length_eq_zero h0⟩
  · exact Or.inr ⟨g, cap, cur.toList, hv, hB, by simpa [Arr] using hg, hnc, hm, by simpa using hs, ht⟩
theorem OwnS.keep (h : OwnS f sz e B w v l) (k : Keep w w') : OwnS f sz e B w' v l := by
  refine ⟨h.1, ?_⟩
  rcases h.2 with hn | ⟨g, cap, cur, hv, hb, hg, rest⟩
  · exact Or.inl hn
  · exact Or.inr ⟨g, cap, cur, hv, hb, k.heap hg, rest⟩
theorem OwnS.mono {B' : Nat} (h : OwnS f sz e B w v l) (hB : B' ≤ B) : OwnS f sz e B' w v l := by
  refine ⟨h.1, ?_⟩
  rcases h.2 with hn | ⟨g, cap, cur, hv, hb, rest⟩
  · exact Or.inl hn
  · exact Or.inr ⟨g, cap, cur, hv, Nat.le_trans hB hb, rest⟩
theorem OwnS.lt (h : OwnS f sz e B w v l) : ∀ k, v.ownBlock = some k → B ≤ k ∧ k < w.heap.size := World.ownsRow.lt h
theorem OwnS.alloc (h : OwnS f sz e B w v l) (o : Obj) : OwnS f sz e B (w.alloc o) v l := h.keep ((Keep.refl w).alloc o)
theorem flat_take_get {cur : List Value} {n : Nat} (hf : ∀ x, (f x).length = sz) (ht : cur.take n = l.flatMap f) (i j : Nat) (hi : i < l.length) (hj : j < sz) : cur[i * sz + j]? = (f l[i])[j]? := by
  have h1 := flat_get f sz hf l i j hi hj
  rw [← ht, List.getElem?_take] at h1
  split at h1
  · exact h1
  · have h2 : (f l[i])[j]? = some ((f l[i])[j]'(by rw [hf]; exact hj)) := List.getElem?_eq_getElem _
    rw [h2] at h1
    cases h1
end
/-- append of one struct. -/
theorem wpList_appS {P : Program} {w : World} {ops : Array Oper} {rest : List Oper} {o : Oper} {a : Act} {Q : Exit → Act → World → Prop} (hgd : o.guard = none) (s x : Operand) (t : TypeId)
    (ho : o.op = .call { callee := .builtin .append, args := #[s, x], argTypes := #[t, t] }) {α : Type} (f : α → List Value) {e : TypeId} {z : Value} {sz bytes : Nat} (ht : P.underlying t = some (.slice e))
    (hi : (P.info? e).map (fun i => (i.zero, i.size, i.bytes)) = some (some z, sz, bytes)) (hz : z.cells.size = sz) (hsz : 0 < sz) (hf : ∀ y, (f y).length = sz) (B : Nat) {v : Value} {l : List α} (hs : a.eval s = v) (hown : OwnS f sz e B w v l)
    (g : Nat) (y : α) (hx : a.eval x = .slice (some ⟨g, 0, none⟩) 1 1) (hg : Arr w g e (f y)) (h1 : ∀ u ∈ f y, u.oneCell' = true) (hm : l.length + 1 ≤ maxLen) (hb : (l.length + 1) * bytes ≤ 140737488355328) (hB : B ≤ w.heap.size)
    (h : ∀ v' w', OwnS f sz e B w' v' (l ++ [y]) → w.grownBy w' v.ownBlock → (v'.ownBlock = v.ownBlock ∨ v'.ownBlock = some w.heap.size) → wpList P ops Q rest (a.put o.dst v') w') : wpList P ops Q (o :: rest) a w := by
  obtain ⟨i, hi', hz', hs', hby⟩ := info_parts hi
  refine wpList_append_own_at (P := P) w hgd s x t ho B e i z sz bytes ht hi' hz' hs' hby hz hsz v l.length (l.flatMap f) hs hown ⟨g, 0, none⟩ 1 1 (f y) hx (by rw [hf]; omega) ?_ h1 hm hb hB ?_
  · intro j u hu
    have e : (⟨g, 0, none⟩ : Addr).add j = ⟨g, j, none⟩ := by unfold Addr.add; split <;> simp_all
    rw [e, Arr.cell hg, hu]
  · intro v' w' a1 a2 a3 a4
    refine h v' w' ?_ a2 a4
    unfold OwnS
    rw [List.length_append, List.flatMap_append]
    simpa using a1
end Go.Qm
namespace Go.Proofs.Qxb6500772a
open Go.RowKit Go.Qm
set_option linter.unusedVariables false
set_option linter.unusedSimpArgs false
attribute [local go_sem ↓] Go.wp_at_zero Go.wp_at_succ
end Go.Proofs.Qxb6500772a
