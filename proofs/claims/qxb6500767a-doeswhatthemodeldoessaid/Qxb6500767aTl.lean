/- The tree: a node is appended. -/
import Derived.Test.Qxb6500767aTk
namespace Go.Proofs.Qxb6500767a
open Go.RowKit Go.Qm
set_option linter.unusedVariables false
set_option linter.unusedSimpArgs false
attribute [local go_sem ↓] Go.wp_at_zero Go.wp_at_succ
theorem inf67 : (Try.prog.info? 67).map (fun i => (i.zero, i.size, i.bytes)) = some (some (.agg (nodC ⟨nd0, .slice none 0 0, .slice none 0 0⟩).toArray), 7, 88) := by kernel_rfl
theorem vb_app {L : List Nm} {x : Nm} {i : Nat} {b : Bool} {q : Nat} (h : vb (L ++ [x]) i b = some q) : vb L i b = some q ∨ (i = L.length ∧ (vl x b).ownBlock = some q) := by
  unfold vb at h ⊢
  rw [List.getElem?_append] at h
  split at h
  · exact Or.inl h
  · rename_i hlt
    by_cases e : i = L.length
    · subst e
      rw [Nat.sub_self] at h
      exact Or.inr ⟨rfl, h⟩
    · rw [List.getElem?_eq_none (by simp; omega)] at h
      cases h
theorem TreeW.app {B gt : Nat} {fp : Nat → Prop} {w : World} {T : List Nd} (h : TreeW B fp w gt T) (hl : T.length ≤ 100000) :
    ∃ bn cap, T.length ≤ cap ∧ cap ≤ maxLen ∧ w.cell? ⟨gt, 0, none⟩ = some (.slice (some ⟨bn, 0, none⟩) T.length cap) ∧ bn < w.heap.size ∧ B ≤ bn ∧ B ≤ gt ∧ gt < w.heap.size ∧
      ∀ W, Keep w W → ∀ g x, Arr W g 67 (nodC x) → (∀ u ∈ nodC x, u.oneCell' = true) → Dat B W x.dv x.nd.data x.nd.kind → EdgO B W x.ev x.nd.edges → (∀ b q, (vl x b).ownBlock = some q → w.heap.size ≤ q) → (∀ q, x.dv.ownBlock = some q → x.ev.ownBlock ≠ some q) →
        ∃ a' c' w', (Builtin.append_ #[61, 61] 61 #[.slice (some ⟨bn, 0, none⟩) T.length cap, .slice (some ⟨g, 0, none⟩) 1 1]).run Try.prog W = .ok (.slice a' (T.length + 1) c') w' ∧ w'.cell? ⟨gt, 0, none⟩ = some (.slice (some ⟨bn, 0, none⟩) T.length cap) ∧ w'.frozen? ⟨gt, 0, none⟩ = false ∧
          ∃ fp', TreeW B fp' (w'.setCell ⟨gt, 0, none⟩ (.slice a' (T.length + 1) c')) gt (T ++ [x.nd]) ∧ Stp fp fp' w (w'.setCell ⟨gt, 0, none⟩ (.slice a' (T.length + 1) c')) := by
  obtain ⟨nv, L, h, rfl, rfl⟩ := h
  obtain ⟨bn, cap, cur, e, hB, hA, hc, hm, hcl, ht⟩ := h.form
  have hob : nv.ownBlock = some bn := by rw [e]; rfl
  rw [List.length_map] at hl ⊢
  have hgt := h.own (q := gt) (Or.inl rfl)
  have hbn := h.own (q := bn) (Or.inr (Or.inl hob))
  refine ⟨bn, cap, hc, hm, by rw [h.tree.cell 0, e]; rfl, hbn.2, hB, h.lo, hgt.2, ?_⟩
  intro W hk g x hg h1 hxd hxe hfr hdif
  obtain ⟨i, hi', hz', hs', hby⟩ := info_parts inf67
  have hnews : ∀ j u, (nodC x)[j]? = some u → W.cell? ((⟨g, 0, none⟩ : Addr).add j) = some u := fun j u hu => by
    have e : (⟨g, 0, none⟩ : Addr).add j = ⟨g, j, none⟩ := by unfold Addr.add; split <;> simp_all
    rw [e, Arr.cell hg, hu]
  obtain ⟨v', w', r1, r2, r3, _, r4⟩ := run_append_own_at (P := Try.prog) W B 61 61 67 i _ 7 88 Try.underlying61 hi' hz' hs' hby rfl (by omega) nv L.length (L.flatMap nodC) (h.rows.keep hk) ⟨g, 0, none⟩ 1 1 (nodC x) rfl hnews h1 (by simp only [maxLen]; omega) (by omega) (by have := hk.size; omega)
  have R : OwnS nodC 7 67 B w' v' (L ++ [x]) := by
    unfold OwnS
    rw [List.length_append, List.flatMap_append]
    simpa using r2
  have hv' : ∃ a' c', v' = .slice a' (L.length + 1) c' := by
    rcases R.form with ⟨-, e⟩ | ⟨g', c', cur', e, -⟩
    · simp at e
    · rw [List.length_append, List.length_singleton] at e
      exact ⟨_, c', e⟩
  obtain ⟨a', c', rfl⟩ := hv'
  rw [e] at r1
  have hkz := hk.size
  have ne1 : bn ≠ gt := fun e => h.ap0 (by rw [← e]; exact hob)
  have r3' : W.grownBy w' (some bn) := by rw [← hob]; exact r3
  have A1 : Arr w' gt 63 [nv] := (h.tree.keep hk).kept r3' (Ne.symm ne1)
  have hv'ne : ∀ q, (Value.slice a' (L.length + 1) c').ownBlock = some q → q = bn ∨ q = W.heap.size := by
    intro q hq
    rcases r4 with a | a
    · rw [a, hob] at hq; exact Or.inl (Option.some.inj hq).symm
    · rw [a] at hq; exact Or.inr (Option.some.inj hq).symm
  have F1 : Fr (fun q => q = bn) W w' := Fr.grown r3' (fun q hq => (Option.some.inj hq).symm)
  have F2 : Fr (fun q => q = gt) w' (w'.setCell ⟨gt, 0, none⟩ (.slice a' (L.length + 1) c')) := (Fr.refl (fun q => q = gt) w').setCell (p := ⟨gt, 0, none⟩) (Or.inl rfl) _
  have F : Fr (fun q => q = bn ∨ q = gt) w (w'.setCell ⟨gt, 0, none⟩ (.slice a' (L.length + 1) c')) := (Fr.keep hk).trans ((F1.mono (fun _ _ a => Or.inl a)).trans (F2.mono (fun _ _ a => Or.inr a)))
  have xlt : ∀ b q, (vl x b).ownBlock = some q → q < W.heap.size := by
    intro b q hq
    cases b
    · exact (hxd.lt q hq).2
    · exact (hxe.lt q hq).2
  have old : ∀ i b q, vb L i b = some q → q < w.heap.size ∧ q ≠ gt ∧ q ≠ bn := fun i b q hq => ⟨(h.own (Or.inr (Or.inr ⟨i, b, hq⟩))).2, (h.ap1 i b q hq).1, fun e => (h.ap1 i b q hq).2 (by rw [e]; exact hob)⟩
  have xne : ∀ b q, (vl x b).ownBlock = some q → q ≠ gt ∧ q ≠ bn := fun b q hq => by have := hfr b q hq; omega
  refine ⟨a', c', w', r1, by rw [A1.cell 0, e]; rfl, A1.frozen 0, FPT gt (.slice a' (L.length + 1) c') (L ++ [x]), ⟨_, L ++ [x], ⟨?_, ?_, by simp, ?_, ?_, h.lo, ?_, ?_, ?_⟩, by simp, rfl⟩, ?_, ?_⟩
  · exact A1.set 0 _
  · exact R.fr F2 (fun q hq e => by rcases hv'ne q hq with a | a <;> omega)
  · intro j hj
    by_cases hjl : j < L.length
    · rw [List.getElem_append_left hjl]
      exact (h.data j hjl).fr F (fun q hq e => by
        have := old j false q (by rw [vb_get hjl]; exact hq)
        rcases e with e | e
        · exact this.2.2 e
        · exact this.2.1 e)
    · have ej : j = L.length := by simp at hj; omega
      subst ej
      rw [List.getElem_append_right (by omega)]
      simp only [Nat.sub_self, List.getElem_cons_zero]
      exact (hxd.fr F1 (fun q hq e => (xne false q hq).2 e)).fr F2 (fun q hq e => (xne false q hq).1 e)
  · intro j hj
    by_cases hjl : j < L.length
    · rw [List.getElem_append_left hjl]
      exact (h.edges j hjl).fr F (fun q hq e => by
        have := old j true q (by rw [vb_get hjl]; exact hq)
        rcases e with e | e
        · exact this.2.2 e
        · exact this.2.1 e)
    · have ej : j = L.length := by simp at hj; omega
      subst ej
      rw [List.getElem_append_right (by omega)]
      simp only [Nat.sub_self, List.getElem_cons_zero]
      exact (hxe.fr F1 (fun q hq e => (xne true q hq).2 e)).fr F2 (fun q hq e => (xne true q hq).1 e)
  · intro hq
    rcases hv'ne gt hq with a | a <;> omega
  · intro j b q hq
    rcases vb_app hq with a | ⟨-, a⟩
    · refine ⟨(old j b q a).2.1, fun hv => ?_⟩
      rcases hv'ne q hv with e | e
      · exact (old j b q a).2.2 e
      · have := (old j b q a).1; omega
    · refine ⟨(xne b q a).1, fun hv => ?_⟩
      rcases hv'ne q hv with e | e
      · exact (xne b q a).2 e
      · have := xlt b q a; omega
  · intro j k b c q hq hk2
    rcases vb_app hq with a | ⟨e1, a⟩ <;> rcases vb_app hk2 with a2 | ⟨e2, a2⟩
    · exact h.ap2 j k b c q a a2
    · have := (old j b q a).1; have := hfr c q a2; omega
    · have := (old k c q a2).1; have := hfr b q a; omega
    · refine ⟨by omega, ?_⟩
      cases b <;> cases c
      · rfl
      · exact absurd a2 (hdif q a)
      · exact absurd a (hdif q a2)
      · rfl
  · exact F.mono (fun q _ hq => by
      rcases hq with e | e
      · exact Or.inr (Or.inl (by rw [e]; exact hob))
      · exact Or.inl e)
  · intro q hq
    rcases hq with a | a | ⟨j, b, hq⟩
    · exact Or.inl (Or.inl a)
    · rcases hv'ne q a with e | e
      · exact Or.inl (Or.inr (Or.inl (by rw [e]; exact hob)))
      · exact Or.inr (by omega)
    · rcases vb_app hq with a | ⟨-, a⟩
      · exact Or.inl (Or.inr (Or.inr ⟨j, b, a⟩))
      · exact Or.inr (hfr b q a)
end Go.Proofs.Qxb6500767a
