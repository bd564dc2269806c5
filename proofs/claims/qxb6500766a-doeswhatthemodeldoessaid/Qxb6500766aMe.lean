/- foldindexm: bearers. -/
import Derived.Test.Qxb6500766aMd
import Derived.BigRegion
namespace Go.Proofs.Qxb6500766a
open Go Go.RowKit Go.Qm
set_option linter.unusedVariables false
set_option linter.unusedSimpArgs false
attribute [local go_sem ↓] Go.wp_at_zero Go.wp_at_succ
theorem befE_trans {a b c : Ent} (h1 : befE b a = true) (h2 : befE c b = true) : befE c a = true := by
  unfold befE befB at *
  by_cases e1 : a.layer = b.layer
  · rw [if_pos e1] at h1
    by_cases e2 : b.layer = c.layer
    · rw [if_pos e2] at h2
      rw [if_pos (e1.trans e2)]
      exact lessB_trans h1 h2
    · rw [if_neg e2, decide_eq_true_eq] at h2
      rw [if_neg (by omega), decide_eq_true_eq]
      omega
  · rw [if_neg e1, decide_eq_true_eq] at h1
    by_cases e2 : b.layer = c.layer
    · rw [if_neg (by omega), decide_eq_true_eq]
      omega
    · rw [if_neg e2, decide_eq_true_eq] at h2
      rw [if_neg (by omega), decide_eq_true_eq]
      omega
theorem befE_total {a b : Ent} (h : ¬ (a.layer = b.layer ∧ a.raw = b.raw)) : befE b a = true ∨ befE a b = true := by
  unfold befE befB
  by_cases e : a.layer = b.layer
  · rw [if_pos e, if_pos e.symm]
    exact lessB_total (fun q => h ⟨e, q⟩)
  · rw [if_neg e, if_neg (fun q => e q.symm), decide_eq_true_eq, decide_eq_true_eq]
    omega
theorem mem_insE {e x : Ent} {es : List Ent} : x ∈ insE e es ↔ x = e ∨ x ∈ es := by
  unfold insE
  rw [List.mem_append, List.mem_cons]
  constructor
  · rintro (a | a | a)
    · exact Or.inr (List.mem_of_mem_take a)
    · exact Or.inl a
    · exact Or.inr (List.mem_of_mem_drop a)
  · rintro (a | a)
    · exact Or.inr (Or.inl a)
    · rw [← List.take_append_drop (posE e es) es, List.mem_append] at a
      rcases a with b | b
      · exact Or.inl b
      · exact Or.inr (Or.inr b)
theorem srt_ins {e : Ent} : ∀ {es : List Ent}, SrtE es → (∀ x ∈ es, ¬ (x.layer = e.layer ∧ x.raw = e.raw)) → SrtE (insE e es)
  | [], _, _ => by simp [SrtE, insE]
  | x :: l, h, hn => by
    unfold SrtE at h
    rw [List.pairwise_cons] at h
    have ih := srt_ins h.2 (fun y hy => hn y (by simp [hy]))
    rw [insE_eq] at ih ⊢
    unfold SrtE at *
    rw [insG]
    split
    · rename_i hb
      rw [List.pairwise_cons]
      refine ⟨fun y hy => ?_, ih⟩
      rw [← insE_eq, mem_insE] at hy
      rcases hy with rfl | hy
      · exact hb
      · exact h.1 y hy
    · rename_i hb
      have hx : befE x e = true := by
        rcases befE_total (hn x (by simp)) with a | a
        · exact absurd a hb
        · exact a
      rw [List.pairwise_cons, List.pairwise_cons]
      refine ⟨fun y hy => ?_, h⟩
      rcases List.mem_cons.1 hy with rfl | hy
      · exact hx
      · exact befE_trans hx (h.1 y hy)
/-- Two lists in order with the same members are one. -/
theorem srt_uniq : ∀ {L M : List Ent}, SrtE L → SrtE M → (∀ x, x ∈ L ↔ x ∈ M) → L = M
  | [], [], _, _, _ => rfl
  | [], y :: M, _, _, h => by have := (h y).2 (by simp); simp at this
  | x :: L, [], _, _, h => by have := (h x).1 (by simp); simp at this
  | x :: L, y :: M, h1, h2, h => by
    unfold SrtE at h1 h2
    rw [List.pairwise_cons] at h1 h2
    have irr : ∀ a : Ent, befE a a = false := fun a => by unfold befE befB; rw [if_pos rfl, lessB_irrefl]
    have asy : ∀ a b : Ent, befE a b = true → befE b a = true → False := fun a b p q => by have := befE_trans p q; rw [irr] at this; cases this
    have e : x = y := by
      rcases List.mem_cons.1 ((h x).1 (by simp)) with a | a
      · exact a
      · rcases List.mem_cons.1 ((h y).2 (by simp)) with b | b
        · exact b.symm
        · exact (asy _ _ (h1.1 y b) (h2.1 x a)).elim
    subst e
    congr 1
    refine srt_uniq h1.2 h2.2 (fun z => ⟨fun hz => ?_, fun hz => ?_⟩)
    · rcases List.mem_cons.1 ((h z).1 (by simp [hz])) with a | a
      · subst a; have := h1.1 z hz; rw [irr] at this; cases this
      · exact a
    · rcases List.mem_cons.1 ((h z).2 (by simp [hz])) with a | a
      · subst a; have := h2.1 z hz; rw [irr] at this; cases this
      · exact a
def hitR (d : Int) (key : List UInt8) (r : Row) : Bool := (r.dir == d) && (keyF r.raw == some key)
def entR (r : Row) : Ent := ⟨r.layer, r.raw, r.kind⟩
def mbF (d : Int) (key : List UInt8) (rows : List Row) : List Ent := rows.foldl (fun es r => if hitR d key r = true then insE (entR r) es else es) []
theorem mb_take {d : Int} {key : List UInt8} {rows : List Row} {i : Nat} (hi : i < rows.length) : mbF d key (rows.take (i + 1)) = if hitR d key rows[i] = true then insE (entR rows[i]) (mbF d key (rows.take i)) else mbF d key (rows.take i) := by
  unfold mbF
  rw [List.take_succ_eq_append_getElem hi, List.foldl_append]
  rfl
def DisR (rows : List Row) : Prop := rows.Pairwise (fun a b => ¬ (a.dir = b.dir ∧ a.layer = b.layer ∧ a.raw = b.raw))
theorem mem_mb {d : Int} {key : List UInt8} : ∀ {rows : List Row} {x : Ent}, x ∈ mbF d key rows ↔ ∃ r ∈ rows, hitR d key r = true ∧ x = entR r := by
  intro rows
  have gen : ∀ (rows : List Row) (es : List Ent) (x : Ent), x ∈ rows.foldl (fun es r => if hitR d key r = true then insE (entR r) es else es) es ↔ x ∈ es ∨ ∃ r ∈ rows, hitR d key r = true ∧ x = entR r := by
    intro rows
    induction rows with
    | nil => intro es x; simp
    | cons r l ih =>
      intro es x
      rw [List.foldl_cons, ih]
      by_cases h : hitR d key r = true
      · rw [if_pos h, mem_insE]
        constructor
        · rintro ((a | a) | ⟨q, hq, h1, h2⟩)
          · exact Or.inr ⟨r, by simp, h, a⟩
          · exact Or.inl a
          · exact Or.inr ⟨q, by simp [hq], h1, h2⟩
        · rintro (a | ⟨q, hq, h1, h2⟩)
          · exact Or.inl (Or.inr a)
          · rcases List.mem_cons.1 hq with rfl | hq
            · exact Or.inl (Or.inl h2)
            · exact Or.inr ⟨q, hq, h1, h2⟩
      · rw [if_neg h]
        constructor
        · rintro (a | ⟨q, hq, h1, h2⟩)
          · exact Or.inl a
          · exact Or.inr ⟨q, by simp [hq], h1, h2⟩
        · rintro (a | ⟨q, hq, h1, h2⟩)
          · exact Or.inl a
          · rcases List.mem_cons.1 hq with rfl | hq
            · exact absurd h1 h
            · exact Or.inr ⟨q, hq, h1, h2⟩
  intro x
  unfold mbF
  rw [gen]
  simp
theorem mb_srt {d : Int} {key : List UInt8} {rows : List Row} (hd : DisR rows) : ∀ i, i ≤ rows.length → SrtE (mbF d key (rows.take i)) := by
  intro i
  induction i with
  | zero => intro _; exact List.Pairwise.nil
  | succ i ih =>
    intro hi
    have hi' : i < rows.length := by omega
    rw [mb_take hi']
    split
    · rename_i hh
      refine srt_ins (ih (by omega)) (fun x hx e => ?_)
      obtain ⟨r, hr, h1, rfl⟩ := mem_mb.1 hx
      obtain ⟨j, hj, rfl⟩ := List.mem_iff_getElem.1 hr
      rw [List.length_take] at hj
      rw [List.getElem_take] at h1 e
      unfold DisR at hd
      rw [List.pairwise_iff_getElem] at hd
      unfold hitR at h1 hh
      rw [Bool.and_eq_true, beq_iff_eq, beq_iff_eq] at h1 hh
      exact hd j i (by omega) hi' (by omega) ⟨by rw [h1.1, hh.1], e⟩
    · exact ih (by omega)
theorem mb_len {d : Int} {key : List UInt8} (rows : List Row) : (mbF d key rows).length ≤ rows.length := by
  have gen : ∀ (rows : List Row) (es : List Ent), (rows.foldl (fun es r => if hitR d key r = true then insE (entR r) es else es) es).length ≤ es.length + rows.length := by
    intro rows
    induction rows with
    | nil => intro es; simp
    | cons r l ih =>
      intro es
      rw [List.foldl_cons]
      refine Nat.le_trans (ih _) ?_
      split
      · unfold insE
        rw [List.length_append, List.length_cons, List.length_take, List.length_drop, List.length_cons]
        have : posE (entR r) es ≤ es.length := by unfold posE; exact (List.takeWhile_sublist _).length_le
        omega
      · rw [List.length_cons]; omega
  have := gen rows []
  simpa [mbF] using this
/-- The place where the bubble stops. -/
theorem bub_end {e : Ent} {es : List Ent} (hs : SrtE es) {j : Nat} (hj : j ≤ es.length) (hge : ∀ k (hk : k < es.length), j ≤ k → befE e es[k] = false) (hst : ∀ (h : j - 1 < es.length), 0 < j → befE e es[j - 1] = true) : es.take j ++ e :: es.drop j = insE e es := by
  have : posE e es = j := posE_eq e es j hj (fun k hk hkj => by
    by_cases e1 : k = j - 1
    · subst e1; exact hst hk (by omega)
    · have h1 := hst (by omega) (by omega)
      unfold SrtE at hs
      rw [List.pairwise_iff_getElem] at hs
      exact befE_trans (hs k (j - 1) hk (by omega) (by omega)) h1) (fun h => hge j h (Nat.le_refl _))
  unfold insE
  rw [this]
end Go.Proofs.Qxb6500766a
