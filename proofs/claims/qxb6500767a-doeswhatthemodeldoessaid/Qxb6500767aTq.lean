/- The tree: a spelling is written in place. -/
import Derived.Test.Qxb6500767aTp
namespace Go.Proofs.Qxb6500767a
open Go.RowKit Go.Qm
set_option linter.unusedVariables false
set_option linter.unusedSimpArgs false
attribute [local go_sem ↓] Go.wp_at_zero Go.wp_at_succ
def splE (es : List Edg) (j : Nat) (nm : List UInt8) : List Edg := es.set j { es.getD j ⟨[], [], 0⟩ with spl := nm }
theorem splE_get {es : List Edg} {j : Nat} (hj : j < es.length) (nm : List UInt8) : splE es j nm = es.set j ⟨es[j].key, nm, es[j].node⟩ := by
  unfold splE; rw [List.getD_eq_getElem?_getD, List.getElem?_eq_getElem hj]; rfl
theorem TreeW.spell {B gt : Nat} {fp : Nat → Prop} {w : World} {T : List Nd} (h : TreeW B fp w gt T) {i : Nat} (hi : i < T.length) {j : Nat} (hj : j < (at' T i).edges.length) :
    ∃ bn cap ge ec, w.cell? ⟨gt, 0, none⟩ = some (.slice (some ⟨bn, 0, none⟩) T.length cap) ∧ T.length ≤ cap ∧ cap ≤ maxLen ∧ w.cell? ⟨bn, i * 7 + 6, none⟩ = some (.slice (some ⟨ge, 0, none⟩) (at' T i).edges.length ec) ∧ (at' T i).edges.length ≤ ec ∧ ec ≤ maxLen ∧ (∃ u, w.cell? ⟨ge, j * 3 + 1, none⟩ = some u) ∧ w.frozen? ⟨ge, j * 3 + 1, none⟩ = false ∧
      ∀ nm, TreeW B fp (w.setCell ⟨ge, j * 3 + 1, none⟩ (str nm)) gt (T.set i { at' T i with edges := splE (at' T i).edges j nm }) ∧ Stp fp fp w (w.setCell ⟨ge, j * 3 + 1, none⟩ (str nm)) := by
  obtain ⟨nv, L, h, rfl, rfl⟩ := h
  have hi' : i < L.length := by simpa using hi
  obtain ⟨bn, cap, cur, e, hB, hA, hc, hm, hl, ht⟩ := h.form
  obtain ⟨c0, c1, c2, c3, c4, c5, c6⟩ := h.row e hi'
  rw [at_map hi'] at hj ⊢
  rcases (h.edges i hi').form with ⟨-, h0⟩ | ⟨ge, ec, ecur, hv, hBe, hAe, hec, hem, hel, het⟩
  · rw [h0] at hj; simp at hj
  · rw [hv] at c6
    have hvb : vb L i true = some ge := by rw [vb_get hi']; show L[i].ev.ownBlock = _; rw [hv]; rfl
    refine ⟨bn, cap, ge, ec, by rw [h.tree.cell 0, e]; simp, by simpa using hc, hm, c6, hec, hem, ⟨_, (hAe.cell _).trans (flat_take_get edgC_length het j 1 hj (by omega))⟩, hAe.frozen _, fun nm => ?_⟩
    have F : Fr (fun q => q = ge) w (w.setCell ⟨ge, j * 3 + 1, none⟩ (str nm)) := (Fr.refl (fun q => q = ge) w).setCell (p := ⟨ge, j * 3 + 1, none⟩) (Or.inl rfl) _
    have hob : nv.ownBlock ≠ some ge := (h.ap1 i true ge hvb).2
    have hE : EdgO B (w.setCell ⟨ge, j * 3 + 1, none⟩ (str nm)) L[i].ev (splE L[i].nd.edges j nm) := by
      rw [splE_get hj]
      exact (h.edges i hi').setc edgC_length hj (j := 1) (by omega) ⟨L[i].nd.edges[j].key, nm, L[i].nd.edges[j].node⟩ (str nm) rfl (by rw [hv]; rfl)
    have hrow : OwnS nodC 7 67 B (w.setCell ⟨ge, j * 3 + 1, none⟩ (str nm)) nv (L.set i ⟨{ L[i].nd with edges := splE L[i].nd.edges j nm }, L[i].dv, L[i].ev⟩) := by
      have := h.rows.fr F (fun q hq e => hob (by rw [← e]; exact hq))
      unfold OwnS at this ⊢
      rw [List.length_set, flat_same (f := nodC) L i hi' ⟨{ L[i].nd with edges := splE L[i].nd.edges j nm }, L[i].dv, L[i].ev⟩ rfl]
      exact this
    have hO : Dat B (w.setCell ⟨ge, j * 3 + 1, none⟩ (str nm)) L[i].dv L[i].nd.data L[i].nd.kind := (h.data i hi').fr F (fun q hq e => by
      subst e
      have := (h.ap2 i i false true q (by rw [vb_get hi']; exact hq) hvb).2
      cases this)
    have hnew : ∀ b q, (vl (⟨{ L[i].nd with edges := splE L[i].nd.edges j nm }, L[i].dv, L[i].ev⟩ : Nm) b).ownBlock = some q → vb L i b = some q ∨ w.heap.size ≤ q := fun b q hq => Or.inl (by rw [vb_get hi']; cases b <;> exact hq)
    have t := h.repl hi' ⟨{ L[i].nd with edges := splE L[i].nd.edges j nm }, L[i].dv, L[i].ev⟩ hrow F (fun q hq => Or.inr (Or.inr (by rw [hq]; exact hvb))) hO hE hnew (fun q a b => by
      have := (h.ap2 i i false true q (by rw [vb_get hi']; exact a) (by rw [vb_get hi']; exact b)).2
      cases this)
    have hfp : FPT gt nv (L.set i ⟨{ L[i].nd with edges := splE L[i].nd.edges j nm }, L[i].dv, L[i].ev⟩) = FPT gt nv L := by
      funext q
      have hv2 : ∀ k b, vb (L.set i ⟨{ L[i].nd with edges := splE L[i].nd.edges j nm }, L[i].dv, L[i].ev⟩) k b = vb L k b := by
        intro k b
        by_cases ej : k = i
        · subst ej
          rw [vb_get (by simpa using hi'), vb_get hi', List.getElem_set_self]
          cases b <;> rfl
        · unfold vb; rw [List.getElem?_set_ne (Ne.symm ej)]
      unfold FPT
      simp only [hv2]
    exact ⟨⟨nv, _, t, by rw [List.map_set], hfp.symm⟩, F.mono (fun q _ hq => Or.inr (Or.inr ⟨i, true, by rw [hq]; exact hvb⟩)), fun q a => Or.inl a⟩
end Go.Proofs.Qxb6500767a
