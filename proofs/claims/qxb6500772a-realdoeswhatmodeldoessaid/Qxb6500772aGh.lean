/- blastlaw: what stands in a region that appends to a stack. -/
import Derived.Test.Qxb6500772aGg
import Derived.Test.Qxb6500772aVh
namespace Go.Proofs.Qxb6500772a
open Go Go.RowKit Go.Qm
set_option linter.unusedVariables false
set_option linter.unusedSimpArgs false
/-- The element is appended as a zero and stored behind. -/
def R2 {α : Type} (f : α → List Value) (e : TypeId) (sz gb : Nat) (w0 : World) (hd : Value → List Value) (OK : World → α → Prop) (XP : α → Prop) (C : World → Value → List α → Prop) (v : Value) (l : List α) (z : α) (CU : Value → Prop) (vs : Nat → Option Value) (w : World) : Prop :=
  (vs 1 = none ∧ vs 2 = none ∧ vs 3 = none ∧ vs 4 = none ∧ (∀ u, vs 6 = some u → CU u) ∧ Ear f e gb w0 hd OK XP (fun y => y = z) C v l (vs 0) (vs 5) w) ∨
  (∃ g c x, vs 1 = some (.slice (some ⟨g, 0, none⟩) (l.length + 1) c) ∧ vs 5 = some (.agg (f x).toArray) ∧ XP x ∧ OK w x ∧ (∀ u, vs 2 = some u → u = .pointer (some ⟨g, l.length * sz, none⟩)) ∧ Lat f e gb w0 hd OK C v l g c (if (vs 3).isSome then x else z) (vs 4).isSome w)
/-- The element itself is appended. -/
def R1 {α : Type} (f : α → List Value) (e : TypeId) (gb : Nat) (w0 : World) (hd : Value → List Value) (OK : World → α → Prop) (XP : α → Prop) (C : World → Value → List α → Prop) (v : Value) (l : List α) (CU : Value → Prop) (vs : Nat → Option Value) (w : World) : Prop :=
  (vs 1 = none ∧ vs 2 = none ∧ (∀ u, vs 4 = some u → CU u) ∧ Ear f e gb w0 hd OK XP XP C v l (vs 0) (vs 3) w) ∨
  (∃ g c x, vs 1 = some (.slice (some ⟨g, 0, none⟩) (l.length + 1) c) ∧ XP x ∧ Lat f e gb w0 hd OK C v l g c x (vs 2).isSome w)
section
variable {α : Type} {f : α → List Value} {sz : Nat} {e t : TypeId} {B gb j : Nat} {hd : Value → List Value} {OK : World → α → Prop} {C : World → Value → List α → Prop} {XP : α → Prop} {w0 w : World} {v : Value} {l : List α} {z : α} {CU : Value → Prop} {vs : Nat → Option Value}
theorem R2.early (h : R2 f e sz gb w0 hd OK XP C v l z CU vs w) (n1 : vs 1 = none) : vs 2 = none ∧ vs 3 = none ∧ vs 4 = none ∧ (∀ u, vs 6 = some u → CU u) ∧ Ear f e gb w0 hd OK XP (fun y => y = z) C v l (vs 0) (vs 5) w := by
  rcases h with ⟨-, h⟩ | ⟨g, c, x, h, -⟩
  · exact h
  · rw [n1] at h; cases h
theorem R2.late (h : R2 f e sz gb w0 hd OK XP C v l z CU vs w) {u : Value} (n1 : vs 1 = some u) : ∃ g c x, u = .slice (some ⟨g, 0, none⟩) (l.length + 1) c ∧ vs 1 = some (.slice (some ⟨g, 0, none⟩) (l.length + 1) c) ∧ vs 5 = some (.agg (f x).toArray) ∧ XP x ∧ OK w x ∧ (∀ u, vs 2 = some u → u = .pointer (some ⟨g, l.length * sz, none⟩)) ∧ Lat f e gb w0 hd OK C v l g c (if (vs 3).isSome then x else z) (vs 4).isSome w := by
  rcases h with ⟨h, -⟩ | ⟨g, c, x, h, h'⟩
  · rw [n1] at h; cases h
  · refine ⟨g, c, x, ?_, h, h'⟩
    rw [n1] at h
    exact Option.some.inj h
theorem R2.start (F : Foc f sz e t B gb j hd OK C) (ar : Arr w0 gb 78 (hd v)) (hc : C w0 v l) : R2 f e sz gb w0 hd OK XP C v l z CU (fun _ => none) w0 :=
  Or.inl ⟨rfl, rfl, rfl, rfl, (fun u h => by cases h), Fr.refl _ _, ar, hc, (fun u h => by cases h), (fun u h => by cases h)⟩
theorem R2.alloc (F : Foc f sz e t B gb j hd OK C) (h : R2 f e sz gb w0 hd OK XP C v l z CU vs w) (n1 : vs 1 = none) (hz : OK w z) : R2 f e sz gb w0 hd OK XP C v l z CU (upv vs 0 (.slice (some ⟨w.heap.size, 0, none⟩) 1 1)) (w.alloc (.cells (f z).toArray e)) := by
  obtain ⟨a, b, c, d, q⟩ := h.early n1
  exact Or.inl ⟨n1, a, b, c, d, q.alloc F z hz rfl⟩
theorem R2.elem (h : R2 f e sz gb w0 hd OK XP C v l z CU vs w) (n1 : vs 1 = none) (y : α) (hy : OK w y) (hx : XP y) : R2 f e sz gb w0 hd OK XP C v l z CU (upv vs 5 (.agg (f y).toArray)) w := by
  obtain ⟨a, b, c, d, q⟩ := h.early n1
  exact Or.inl ⟨n1, a, b, c, d, q.elem y hy hx⟩
theorem R2.call (h : R2 f e sz gb w0 hd OK XP C v l z CU vs w) (n1 : vs 1 = none) (u : Value) (hu : CU u) : R2 f e sz gb w0 hd OK XP C v l z CU (upv vs 6 u) w := by
  obtain ⟨a, b, c, d, q⟩ := h.early n1
  refine Or.inl ⟨n1, a, b, c, fun u' h' => ?_, q⟩
  rw [upv_same] at h'
  rw [← Option.some.inj h']
  exact hu
theorem R2.app (F : Foc f sz e t B gb j hd OK C) (h : R2 f e sz gb w0 hd OK XP C v l z CU vs w) (n1 : vs 1 = none) {u0 u5 : Value} (h0 : vs 0 = some u0) (h5 : vs 5 = some u5) (hl : l.length ≤ 1000000) :
    ∃ g c w', (Builtin.append_ #[t, t] t #[v, u0]).run Try.prog w = .ok (.slice (some ⟨g, 0, none⟩) (l.length + 1) c) w' ∧ R2 f e sz gb w0 hd OK XP C v l z CU (upv vs 1 (.slice (some ⟨g, 0, none⟩) (l.length + 1) c)) w' := by
  obtain ⟨n2, n3, n4, -, q⟩ := h.early n1
  rw [h0] at q
  obtain ⟨g, c, w', y, r1, r2, r3, r4⟩ := Ear.app F q hl
  obtain ⟨x, hx1, hx2, hx3⟩ := q.x u5 h5
  refine ⟨g, c, w', r1, Or.inr ⟨g, c, x, rfl, by rw [← hx1]; exact h5, hx3, r4 x hx2, fun u hu => ?_, ?_⟩⟩
  · have : upv vs 1 (.slice (some ⟨g, 0, none⟩) (l.length + 1) c) 2 = vs 2 := rfl
    rw [this, n2] at hu
    cases hu
  · have e3 : upv vs 1 (.slice (some ⟨g, 0, none⟩) (l.length + 1) c) 3 = vs 3 := rfl
    have e4 : upv vs 1 (.slice (some ⟨g, 0, none⟩) (l.length + 1) c) 4 = vs 4 := rfl
    rw [e3, e4, n3, n4, ← r3]
    exact r2
theorem R2.idx (h : R2 f e sz gb w0 hd OK XP C v l z CU vs w) {u : Value} (n1 : vs 1 = some u) : ∃ g c, u = .slice (some ⟨g, 0, none⟩) (l.length + 1) c ∧ R2 f e sz gb w0 hd OK XP C v l z CU (upv vs 2 (.pointer (some ⟨g, l.length * sz, none⟩))) w := by
  obtain ⟨g, c, x, hu, h1, h5, hx, ho, -, q⟩ := h.late n1
  refine ⟨g, c, hu, Or.inr ⟨g, c, x, h1, h5, hx, ho, fun u' h' => ?_, q⟩⟩
  rw [upv_same] at h'
  exact (Option.some.inj h').symm
theorem R2.store (F : Foc f sz e t B gb j hd OK C) (h : R2 f e sz gb w0 hd OK XP C v l z CU vs w) {u u2 u5 : Value} (n1 : vs 1 = some u) (n2 : vs 2 = some u2) (n5 : vs 5 = some u5) : ∃ g x, u2 = .pointer (some ⟨g, l.length * sz, none⟩) ∧ u5 = .agg (f x).toArray ∧ OK w x ∧ (∀ k < sz, ∃ u, w.cell? ⟨g, l.length * sz + k, none⟩ = some u) ∧ (∀ k, w.frozen? ⟨g, k, none⟩ = false) ∧ ∀ d, R2 f e sz gb w0 hd OK XP C v l z CU (upv vs 3 d) (stC w g (l.length * sz) (f x)) := by
  obtain ⟨g, c, x, hu, h1, h5, hx, ho, h2, q⟩ := h.late n1
  refine ⟨g, x, h2 u2 n2, ?_, ho, (q.cells F).1, (q.cells F).2, fun d => Or.inr ⟨g, c, x, h1, h5, hx, q.okst F ho _ _, h2, ?_⟩⟩
  · rw [n5] at h5; exact Option.some.inj h5
  · have e3 : upv vs 3 d 3 = some d := rfl
    rw [e3]
    exact q.store F x ho
theorem R2.hdr (F : Foc f sz e t B gb j hd OK C) (h : R2 f e sz gb w0 hd OK XP C v l z CU vs w) {u : Value} (n1 : vs 1 = some u) : ∃ b m c, u = .slice b m c ∧ (∃ u', w.cell? ⟨gb, j, none⟩ = some u') ∧ w.frozen? ⟨gb, j, none⟩ = false ∧ ∀ d, R2 f e sz gb w0 hd OK XP C v l z CU (upv vs 4 d) (w.setCell ⟨gb, j, none⟩ (.slice b m c)) := by
  obtain ⟨g, c, x, rfl, h1, h5, hx, ho, h2, q⟩ := h.late n1
  exact ⟨_, _, _, rfl, ⟨_, (q.ar.cell j).trans (F.ge _)⟩, q.ar.frozen j, fun d => Or.inr ⟨g, c, x, h1, h5, hx, q.okhd F ho _ _, h2, q.hdr F⟩⟩
theorem R2.fin (h : R2 f e sz gb w0 hd OK XP C v l z CU vs w) {u u3 u4 : Value} (n1 : vs 1 = some u) (n3 : vs 3 = some u3) (n4 : vs 4 = some u4) : ∃ g c x, XP x ∧ Lat f e gb w0 hd OK C v l g c x true w := by
  obtain ⟨g, c, x, rfl, h1, h5, hx, ho, h2, q⟩ := h.late n1
  rw [n3, n4] at q
  exact ⟨g, c, x, hx, q⟩
theorem R1.early (h : R1 f e gb w0 hd OK XP C v l CU vs w) (n1 : vs 1 = none) : vs 2 = none ∧ (∀ u, vs 4 = some u → CU u) ∧ Ear f e gb w0 hd OK XP XP C v l (vs 0) (vs 3) w := by
  rcases h with ⟨-, h⟩ | ⟨g, c, x, h, -⟩
  · exact h
  · rw [n1] at h; cases h
theorem R1.late (h : R1 f e gb w0 hd OK XP C v l CU vs w) {u : Value} (n1 : vs 1 = some u) : ∃ g c x, u = .slice (some ⟨g, 0, none⟩) (l.length + 1) c ∧ vs 1 = some (.slice (some ⟨g, 0, none⟩) (l.length + 1) c) ∧ XP x ∧ Lat f e gb w0 hd OK C v l g c x (vs 2).isSome w := by
  rcases h with ⟨h, -⟩ | ⟨g, c, x, h, h'⟩
  · rw [n1] at h; cases h
  · refine ⟨g, c, x, ?_, h, h'⟩
    rw [n1] at h
    exact Option.some.inj h
theorem R1.start (F : Foc f sz e t B gb j hd OK C) (ar : Arr w0 gb 78 (hd v)) (hc : C w0 v l) : R1 f e gb w0 hd OK XP C v l CU (fun _ => none) w0 :=
  Or.inl ⟨rfl, rfl, (fun u h => by cases h), Fr.refl _ _, ar, hc, (fun u h => by cases h), (fun u h => by cases h)⟩
theorem R1.alloc (F : Foc f sz e t B gb j hd OK C) (h : R1 f e gb w0 hd OK XP C v l CU vs w) (n1 : vs 1 = none) {u5 : Value} (h5 : vs 3 = some u5) : ∃ x, u5 = .agg (f x).toArray ∧ R1 f e gb w0 hd OK XP C v l CU (upv vs 0 (.slice (some ⟨w.heap.size, 0, none⟩) 1 1)) (w.alloc (.cells (f x).toArray e)) := by
  obtain ⟨a, b, q⟩ := h.early n1
  obtain ⟨x, x1, x2, x3⟩ := q.x u5 h5
  exact ⟨x, x1, Or.inl ⟨n1, a, b, q.alloc F x x2 x3⟩⟩
theorem R1.elem (h : R1 f e gb w0 hd OK XP C v l CU vs w) (n1 : vs 1 = none) (y : α) (hy : OK w y) (hx : XP y) : R1 f e gb w0 hd OK XP C v l CU (upv vs 3 (.agg (f y).toArray)) w := by
  obtain ⟨a, b, q⟩ := h.early n1
  exact Or.inl ⟨n1, a, b, q.elem y hy hx⟩
theorem R1.call (h : R1 f e gb w0 hd OK XP C v l CU vs w) (n1 : vs 1 = none) (u : Value) (hu : CU u) : R1 f e gb w0 hd OK XP C v l CU (upv vs 4 u) w := by
  obtain ⟨a, b, q⟩ := h.early n1
  refine Or.inl ⟨n1, a, fun u' h' => ?_, q⟩
  rw [upv_same] at h'
  rw [← Option.some.inj h']
  exact hu
theorem R1.app (F : Foc f sz e t B gb j hd OK C) (h : R1 f e gb w0 hd OK XP C v l CU vs w) (n1 : vs 1 = none) {u0 : Value} (h0 : vs 0 = some u0) (hl : l.length ≤ 1000000) :
    ∃ g c w', (Builtin.append_ #[t, t] t #[v, u0]).run Try.prog w = .ok (.slice (some ⟨g, 0, none⟩) (l.length + 1) c) w' ∧ R1 f e gb w0 hd OK XP C v l CU (upv vs 1 (.slice (some ⟨g, 0, none⟩) (l.length + 1) c)) w' := by
  obtain ⟨n4, -, q⟩ := h.early n1
  rw [h0] at q
  obtain ⟨g, c, w', y, r1, r2, r3, r4⟩ := Ear.app F q hl
  refine ⟨g, c, w', r1, Or.inr ⟨g, c, y, rfl, r3, ?_⟩⟩
  have e4 : upv vs 1 (.slice (some ⟨g, 0, none⟩) (l.length + 1) c) 2 = vs 2 := rfl
  rw [e4, n4]
  exact r2
theorem R1.hdr (F : Foc f sz e t B gb j hd OK C) (h : R1 f e gb w0 hd OK XP C v l CU vs w) {u : Value} (n1 : vs 1 = some u) : ∃ b m c, u = .slice b m c ∧ (∃ u', w.cell? ⟨gb, j, none⟩ = some u') ∧ w.frozen? ⟨gb, j, none⟩ = false ∧ ∀ d, R1 f e gb w0 hd OK XP C v l CU (upv vs 2 d) (w.setCell ⟨gb, j, none⟩ (.slice b m c)) := by
  obtain ⟨g, c, x, rfl, h1, hx, q⟩ := h.late n1
  exact ⟨_, _, _, rfl, ⟨_, (q.ar.cell j).trans (F.ge _)⟩, q.ar.frozen j, fun d => Or.inr ⟨g, c, x, h1, hx, q.hdr F⟩⟩
theorem R1.fin (h : R1 f e gb w0 hd OK XP C v l CU vs w) {u u4 : Value} (n1 : vs 1 = some u) (n4 : vs 2 = some u4) : ∃ g c x, XP x ∧ Lat f e gb w0 hd OK C v l g c x true w := by
  obtain ⟨g, c, x, rfl, h1, hx, q⟩ := h.late n1
  rw [n4] at q
  exact ⟨g, c, x, hx, q⟩
end
end Go.Proofs.Qxb6500772a
