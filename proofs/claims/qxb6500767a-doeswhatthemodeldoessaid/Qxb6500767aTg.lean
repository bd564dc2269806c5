/- The tree in memory: who owns which block; what a write leaves. -/
import Derived.Test.Qxb6500767aTf
import Derived.Test.Qxb6500767aTc
namespace Go.Qm
open Go Go.RowKit
set_option linter.unusedVariables false
section
variable {α : Type} {f : α → List Value} {sz : Nat} {e : TypeId} {B : Nat} {w w' : World} {v : Value} {l : List α}
theorem OwnS.of {g cap : Nat} {cur : List Value} (hf : ∀ x, (f x).length = sz) (hB : B ≤ g) (hA : Arr w g e cur) (hl : l.length ≤ cap) (hm : cap ≤ maxLen) (hc : cur.length = cap * sz) (ht : cur.take (l.length * sz) = l.flatMap f) : OwnS f sz e B w (.slice (some ⟨g, 0, none⟩) l.length cap) l :=
  ⟨flat_length f sz hf l, Or.inr ⟨g, cap, cur.toArray, rfl, hB, hA, hl, hm, by simpa using hc, by simpa using ht⟩⟩
theorem flat_set (hf : ∀ x, (f x).length = sz) : ∀ (l : List α) (i j : Nat) (hi : i < l.length) (hj : j < sz) (x' : α) (u : Value), f x' = (f l[i]).set j u → (l.flatMap f).set (i * sz + j) u = (l.set i x').flatMap f
  | [], i, j, hi, _, _, _, _ => by simp at hi
  | y :: l, 0, j, hi, hj, x', u, hx => by
    simp only [List.getElem_cons_zero] at hx
    rw [List.set_cons_zero, List.flatMap_cons, List.flatMap_cons, hx, Nat.zero_mul, Nat.zero_add, List.set_append_left _ _ (by rw [hf]; exact hj)]
  | y :: l, i + 1, j, hi, hj, x', u, hx => by
    simp only [List.getElem_cons_succ] at hx
    rw [List.set_cons_succ, List.flatMap_cons, List.flatMap_cons, List.set_append_right _ _ (by rw [hf, Nat.add_mul]; omega), hf, show (i + 1) * sz + j - sz = i * sz + j by rw [Nat.add_mul]; omega, flat_set hf l i j (by simpa using hi) hj x' u hx]
theorem OwnS.fr {P : Nat → Prop} (h : OwnS f sz e B w v l) (k : Fr P w w') (hp : ∀ q, v.ownBlock = some q → ¬ P q) : OwnS f sz e B w' v l := by
  refine ⟨h.1, ?_⟩
  rcases h.2 with hn | ⟨g, cap, cur, hv, hb, hg, rest⟩
  · exact Or.inl hn
  · exact Or.inr ⟨g, cap, cur, hv, hb, k.heap (hp g (by rw [hv]; rfl)) hg, rest⟩
theorem Own.fr {xs : List Value} {P : Nat → Prop} (h : Own B e w v xs) (k : Fr P w w') (hp : ∀ q, v.ownBlock = some q → ¬ P q) : Own B e w' v xs := by
  refine ⟨h.1, ?_⟩
  rcases h.2 with hn | ⟨g, cap, cur, hv, hb, hg, rest⟩
  · exact Or.inl hn
  · exact Or.inr ⟨g, cap, cur, hv, hb, k.heap (hp g (by rw [hv]; rfl)) hg, rest⟩
/-- A cell of one element turns. -/
theorem OwnS.setc (h : OwnS f sz e B w v l) (hf : ∀ x, (f x).length = sz) {i j : Nat} (hi : i < l.length) (hj : j < sz) (x' : α) (u : Value) (hx : f x' = (f l[i]).set j u) {g : Nat} (hg : v.ownBlock = some g) : OwnS f sz e B (w.setCell ⟨g, i * sz + j, none⟩ u) v (l.set i x') := by
  rcases h.form with ⟨rfl, rfl⟩ | ⟨g', cap, cur, rfl, hB, hA, hc, hm, hl, ht⟩
  · simp at hi
  · have e1 : g' = g := by simpa [Value.ownBlock] using hg
    subst e1
    have hlt : i * sz + j < l.length * sz := by
      have : (i + 1) * sz ≤ l.length * sz := Nat.mul_le_mul_right sz hi
      rw [Nat.add_mul] at this
      omega
    have := OwnS.of (f := f) (l := l.set i x') (cap := cap) hf hB (hA.set (i * sz + j) u) (by simpa using hc) hm (by simpa using hl) (by
      rw [List.length_set, List.take_set, ht]
      exact flat_set hf l i j hi hj x' u hx)
    rwa [List.length_set] at this
end
end Go.Qm
namespace Go.Proofs.Qxb6500767a
open Go.RowKit Go.Qm
set_option linter.unusedVariables false
set_option linter.unusedSimpArgs false
attribute [local go_sem ↓] Go.wp_at_zero Go.wp_at_succ
/-- The data's slice: it reads d, its block is of B on; a file's owns its block. -/
structure Dat (B : Nat) (w : World) (v : Value) (d : List UInt8) (kd : Nat) : Prop where
  bs : Bs w v d
  lt : ∀ q, v.ownBlock = some q → B ≤ q ∧ q < w.heap.size
  own : kd = 1 → Own B 5 w v (d.map cb)
theorem Dat.of_own {B : Nat} {w : World} {v : Value} {d : List UInt8} (h : Own B 5 w v (d.map cb)) (kd : Nat) : Dat B w v d kd := ⟨h.bs, h.lt, fun _ => h⟩
theorem Dat.fr {B : Nat} {w w' : World} {v : Value} {d : List UInt8} {kd : Nat} {P : Nat → Prop} (h : Dat B w v d kd) (k : Fr P w w') (hp : ∀ q, v.ownBlock = some q → ¬ P q) : Dat B w' v d kd := by
  refine ⟨?_, fun q hq => ⟨(h.lt q hq).1, Nat.lt_of_lt_of_le (h.lt q hq).2 k.size⟩, fun e => (h.own e).fr k hp⟩
  obtain ⟨a, c, e, h1, h2, h3⟩ := h.bs
  refine ⟨a, c, e, h1, h2, fun i u hu => ?_⟩
  obtain ⟨b, o, rfl, hc⟩ := h3 i u hu
  refine ⟨b, o, rfl, ?_⟩
  have hb : v.ownBlock = some b := by rw [e]; rfl
  have hk := k.block b (h.lt b hb).2 (hp b hb)
  have : w'.cell? ⟨b, o + i, none⟩ = w.cell? ⟨b, o + i, none⟩ := by simp only [World.cell?, hk]
  rw [this]; exact hc
theorem Dat.keep {B : Nat} {w w' : World} {v : Value} {d : List UInt8} {kd : Nat} (h : Dat B w v d kd) (k : Keep w w') : Dat B w' v d kd := h.fr (P := fun _ => False) (Fr.keep k) (fun _ _ a => a)
theorem Dat.mono {B B' : Nat} {w : World} {v : Value} {d : List UInt8} {kd : Nat} (h : Dat B w v d kd) (hB : B' ≤ B) : Dat B' w v d kd := ⟨h.bs, fun q hq => ⟨Nat.le_trans hB (h.lt q hq).1, (h.lt q hq).2⟩, fun e => (h.own e).mono hB⟩
abbrev EdgO (B : Nat) (w : World) (v : Value) (l : List Edg) : Prop := OwnS edgC 3 102 B w v l
def vl (x : Nm) (b : Bool) : Value := if b then x.ev else x.dv
/-- The block of one of the two slices of node i. -/
def vb (L : List Nm) (i : Nat) (b : Bool) : Option Nat := (L[i]?).bind fun x => (vl x b).ownBlock
structure TW (B : Nat) (w : World) (gt : Nat) (nv : Value) (L : List Nm) : Prop where
  tree : Arr w gt 63 [nv]
  rows : OwnS nodC 7 67 B w nv L
  ne : L ≠ []
  data : ∀ i (hi : i < L.length), Dat B w L[i].dv L[i].nd.data L[i].nd.kind
  edges : ∀ i (hi : i < L.length), EdgO B w L[i].ev L[i].nd.edges
  lo : B ≤ gt
  ap0 : nv.ownBlock ≠ some gt
  ap1 : ∀ i b q, vb L i b = some q → q ≠ gt ∧ nv.ownBlock ≠ some q
  ap2 : ∀ i j b c q, vb L i b = some q → vb L j c = some q → i = j ∧ b = c
def FPT (gt : Nat) (nv : Value) (L : List Nm) (q : Nat) : Prop := q = gt ∨ nv.ownBlock = some q ∨ ∃ i b, vb L i b = some q
section
variable {B gt : Nat} {w w' : World} {nv : Value} {L : List Nm}
theorem vb_get {i : Nat} (hi : i < L.length) (b : Bool) : vb L i b = (vl L[i] b).ownBlock := by unfold vb; rw [List.getElem?_eq_getElem hi]; rfl
theorem vb_some {i : Nat} {b : Bool} {q : Nat} (h : vb L i b = some q) : i < L.length := by
  unfold vb at h
  rcases Nat.lt_or_ge i L.length with a | a
  · exact a
  · rw [List.getElem?_eq_none a] at h; cases h
theorem TW.form (h : TW B w gt nv L) : ∃ bn cap cur, nv = .slice (some ⟨bn, 0, none⟩) L.length cap ∧ B ≤ bn ∧ Arr w bn 67 cur ∧ L.length ≤ cap ∧ cap ≤ maxLen ∧ cur.length = cap * 7 ∧ cur.take (L.length * 7) = L.flatMap nodC := by
  rcases h.rows.form with ⟨-, e⟩ | h2
  · exact absurd e h.ne
  · exact h2
theorem TW.own (h : TW B w gt nv L) {q : Nat} (hq : FPT gt nv L q) : B ≤ q ∧ q < w.heap.size := by
  rcases hq with rfl | hq | ⟨i, b, hq⟩
  · exact ⟨h.lo, h.tree.lt⟩
  · exact h.rows.lt q hq
  · have hi := vb_some hq
    rw [vb_get hi] at hq
    cases b
    · exact (h.data i hi).lt q hq
    · exact (h.edges i hi).lt q hq
theorem TW.fr {P : Nat → Prop} (h : TW B w gt nv L) (k : Fr P w w') (hp : ∀ q, FPT gt nv L q → ¬ P q) : TW B w' gt nv L :=
  ⟨k.arr (hp gt (Or.inl rfl)) h.tree, h.rows.fr k (fun q hq => hp q (Or.inr (Or.inl hq))), h.ne,
    fun i hi => (h.data i hi).fr k (fun q hq => hp q (Or.inr (Or.inr ⟨i, false, by rw [vb_get hi]; exact hq⟩))),
    fun i hi => (h.edges i hi).fr k (fun q hq => hp q (Or.inr (Or.inr ⟨i, true, by rw [vb_get hi]; exact hq⟩))), h.lo, h.ap0, h.ap1, h.ap2⟩
theorem TW.keep (h : TW B w gt nv L) (k : Keep w w') : TW B w' gt nv L := h.fr (P := fun _ => False) (Fr.keep k) (fun _ _ a => a)
theorem TW.row (h : TW B w gt nv L) {bn cap : Nat} (hv : nv = .slice (some ⟨bn, 0, none⟩) L.length cap) {i : Nat} (hi : i < L.length) :
    w.cell? ⟨bn, i * 7, none⟩ = some (.int .i64 (L[i].nd.kind : Nat)) ∧ w.cell? ⟨bn, i * 7 + 1, none⟩ = some (.int .i64 L[i].nd.mode) ∧ w.cell? ⟨bn, i * 7 + 2, none⟩ = some (.int .i64 (L[i].nd.links : Nat)) ∧ w.cell? ⟨bn, i * 7 + 3, none⟩ = some (.int .i64 (L[i].nd.opens : Nat)) ∧ w.cell? ⟨bn, i * 7 + 4, none⟩ = some (.int .i64 (L[i].nd.par : Nat)) ∧
    w.cell? ⟨bn, i * 7 + 5, none⟩ = some L[i].dv ∧ w.cell? ⟨bn, i * 7 + 6, none⟩ = some L[i].ev := by
  obtain ⟨bn', cap', cur, e, hB, hA, hc, hm, hl, ht⟩ := h.form
  rw [hv] at e
  simp only [Value.slice.injEq, Option.some.injEq, Addr.mk.injEq] at e
  obtain ⟨⟨rfl, -⟩, -, rfl⟩ := e
  have e0 := flat_take_get nodC_length ht i 0 hi (by omega)
  rw [Nat.add_zero] at e0
  exact ⟨(hA.cell _).trans e0, (hA.cell _).trans (flat_take_get nodC_length ht i 1 hi (by omega)), (hA.cell _).trans (flat_take_get nodC_length ht i 2 hi (by omega)), (hA.cell _).trans (flat_take_get nodC_length ht i 3 hi (by omega)), (hA.cell _).trans (flat_take_get nodC_length ht i 4 hi (by omega)), (hA.cell _).trans (flat_take_get nodC_length ht i 5 hi (by omega)), (hA.cell _).trans (flat_take_get nodC_length ht i 6 hi (by omega))⟩
theorem at_map {L : List Nm} {i : Nat} (hi : i < L.length) : at' (L.map (·.nd)) i = L[i].nd := by rw [at_get (by simpa using hi)]; simp
theorem TW.tr (h : TW B w gt nv L) : TR w gt (L.map (·.nd)) := by
  obtain ⟨bn, cap, cur, e, hB, hA, hc, hm, hl, ht⟩ := h.form
  refine ⟨bn, cap, ?_, by simpa using hc, hm, fun i hi => ?_⟩
  · rw [h.tree.cell 0, e]; simp
  · have hi' : i < L.length := by simpa using hi
    obtain ⟨c0, c1, c2, c3, c4, c5, c6⟩ := h.row e hi'
    rw [at_map hi']
    exact ⟨_, _, c0, c1, c2, c3, c4, c5, c6, (h.data i hi').bs, Es.of_own (h.edges i hi')⟩
/-- Node i is replaced; only the rows' block and the blocks of node i turn. -/
theorem TW.repl (h : TW B w gt nv L) {i : Nat} (hi : i < L.length) (x' : Nm) {P : Nat → Prop} (hrows : OwnS nodC 7 67 B w' nv (L.set i x')) (hfr : Fr P w w')
    (hP : ∀ q, P q → nv.ownBlock = some q ∨ vb L i false = some q ∨ vb L i true = some q) (hd : Dat B w' x'.dv x'.nd.data x'.nd.kind) (he : EdgO B w' x'.ev x'.nd.edges)
    (hnew : ∀ b q, (vl x' b).ownBlock = some q → vb L i b = some q ∨ w.heap.size ≤ q) (hdif : ∀ q, x'.dv.ownBlock = some q → x'.ev.ownBlock ≠ some q) : TW B w' gt nv (L.set i x') := by
  have hset : ∀ j b q, vb (L.set i x') j b = some q → (j = i ∧ (vl x' b).ownBlock = some q) ∨ (j ≠ i ∧ vb L j b = some q) := by
    intro j b q hq
    unfold vb at hq
    by_cases e : j = i
    · subst e
      rw [List.getElem?_set_self hi] at hq
      exact Or.inl ⟨rfl, hq⟩
    · rw [List.getElem?_set_ne (Ne.symm e)] at hq
      exact Or.inr ⟨e, hq⟩
  have lto : ∀ q, FPT gt nv L q → q < w.heap.size := fun q hq => (h.own hq).2
  have nP : ∀ j b q, j ≠ i → vb L j b = some q → ¬ P q := by
    intro j b q hj hq hp
    rcases hP q hp with a | a | a
    · exact (h.ap1 j b q hq).2 a
    · exact hj (h.ap2 j i b false q hq a).1
    · exact hj (h.ap2 j i b true q hq a).1
  refine ⟨hfr.arr ?_ h.tree, hrows, by intro e; have := congrArg List.length e; simp at this; rw [this] at hi; simp at hi, ?_, ?_, h.lo, h.ap0, ?_, ?_⟩
  · intro hp
    rcases hP gt hp with a | a | a
    · exact h.ap0 a
    · exact (h.ap1 i false gt a).1 rfl
    · exact (h.ap1 i true gt a).1 rfl
  · intro j hj
    have hj' : j < L.length := by simpa using hj
    by_cases e : j = i
    · subst e; rw [List.getElem_set_self]; exact hd
    · rw [List.getElem_set_ne (Ne.symm e)]
      exact (h.data j hj').fr hfr (fun q hq => nP j false q e (by rw [vb_get hj']; exact hq))
  · intro j hj
    have hj' : j < L.length := by simpa using hj
    by_cases e : j = i
    · subst e; rw [List.getElem_set_self]; exact he
    · rw [List.getElem_set_ne (Ne.symm e)]
      exact (h.edges j hj').fr hfr (fun q hq => nP j true q e (by rw [vb_get hj']; exact hq))
  · intro j b q hq
    rcases hset j b q hq with ⟨rfl, a⟩ | ⟨_, a⟩
    · rcases hnew b q a with a2 | a2
      · exact h.ap1 j b q a2
      · exact ⟨fun e => by have := lto gt (Or.inl rfl); omega, fun e => by have := lto q (Or.inr (Or.inl e)); omega⟩
    · exact h.ap1 j b q a
  · intro j k b c q hq hk
    rcases hset j b q hq with ⟨rfl, a⟩ | ⟨e1, a⟩ <;> rcases hset k c q hk with ⟨e2, a'⟩ | ⟨e2, a'⟩
    · refine ⟨e2.symm, ?_⟩
      cases b <;> cases c
      · rfl
      · exact absurd a' (hdif q a)
      · exact absurd a (hdif q a')
      · rfl
    · rcases hnew b q a with a2 | a2
      · exact absurd (h.ap2 k j c b q a' a2).1 e2
      · have := lto q (Or.inr (Or.inr ⟨k, c, a'⟩)); omega
    · subst e2
      rcases hnew c q a' with a2 | a2
      · exact absurd (h.ap2 j k b c q a a2).1 e1
      · have := lto q (Or.inr (Or.inr ⟨j, b, a⟩)); omega
    · exact h.ap2 j k b c q a a'
theorem fpt_set (h : TW B w gt nv L) {i : Nat} (hi : i < L.length) {x' : Nm} (hnew : ∀ b q, (vl x' b).ownBlock = some q → vb L i b = some q ∨ w.heap.size ≤ q) : ∀ q, FPT gt nv (L.set i x') q → FPT gt nv L q ∨ w.heap.size ≤ q := by
  intro q hq
  rcases hq with a | a | ⟨j, b, hq⟩
  · exact Or.inl (Or.inl a)
  · exact Or.inl (Or.inr (Or.inl a))
  · unfold vb at hq
    by_cases e : j = i
    · subst e
      rw [List.getElem?_set_self hi] at hq
      rcases hnew b q hq with a | a
      · exact Or.inl (Or.inr (Or.inr ⟨j, b, a⟩))
      · exact Or.inr a
    · rw [List.getElem?_set_ne (Ne.symm e)] at hq
      exact Or.inl (Or.inr (Or.inr ⟨j, b, hq⟩))
end
end Go.Proofs.Qxb6500767a
