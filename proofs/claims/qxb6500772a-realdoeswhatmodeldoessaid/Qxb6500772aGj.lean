/- blastlaw: what stands in a region that pops expressions and appends a statement. -/
import Derived.Test.Qxb6500772aGh
namespace Go.Proofs.Qxb6500772a
open Go Go.RowKit Go.Qm
set_option linter.unusedVariables false
set_option linter.unusedSimpArgs false
/-- A fresh list of expressions. -/
def Yv (P : Nat → Prop) (w : World) (u : Value) : Prop := ∃ ua um uc ex er, u = .slice ua um uc ∧ Rows P w u 7 er ∧ ELW P w ex er
theorem Yv.step {P : Nat → Prop} {w w' : World} {u : Value} (h : Yv P w u) (k : KP P w w') : Yv P w' u := by
  obtain ⟨ua, um, uc, ex, er, a, b, c⟩ := h
  exact ⟨ua, um, uc, ex, er, a, b.step k, c.step k⟩
theorem Yv.ok {P : Nat → Prop} {w : World} {b : Option Addr} {m c : Nat} (h : Yv P w (.slice b m c)) (f : SF) (hf : SFr f) : ∃ ex er, NSok P w ⟨f, .slice b m c, .slice none 0 0, .slice none 0 0, ex, .nil, .nil, er, [], []⟩ := by
  obtain ⟨ua, um, uc, ex, er, a, b, c⟩ := h
  exact ⟨ex, er, hf, b, c, rows_nil P w 8, rfl, rows_nil P w 8, rfl⟩
def R3 (B gb : Nat) (w0 : World) (hd0 : Value → List Value) (P0 : Nat → Prop) (C0 : World → Value → List NS → Prop) (v : Value) (l : List NS) (G : (Value → List Value) → (Nat → Prop) → (World → Value → List NS → Prop) → Prop) (vs : Nat → Option Value) (w : World) : Prop :=
  (vs 6 = none ∧ vs 5 = none ∧ vs 1 = none ∧ R2 nsC 109 8 gb w0 hd0 (fun w x => NSok P0 w x) (fun x => nsz x = 1) C0 v l zS (fun _ => True) vs w) ∨
  (∃ u hd1 P1 C1, vs 6 = some u ∧ Foc nsC 8 109 25 B gb 2 hd1 (fun w x => NSok P1 w x) C1 ∧ G hd1 P1 C1 ∧ (vs 1 = none → Yv P1 w u) ∧ R2 nsC 109 8 gb w0 hd1 (fun w x => NSok P1 w x) (fun x => nsz x = 1) C1 v l zS (fun _ => True) vs w)
section
variable {B gb : Nat} {w0 w : World} {hd0 : Value → List Value} {P0 : Nat → Prop} {C0 : World → Value → List NS → Prop} {v : Value} {l : List NS} {G : (Value → List Value) → (Nat → Prop) → (World → Value → List NS → Prop) → Prop} {vs : Nat → Option Value}
theorem R3.start (F : Foc nsC 8 109 25 B gb 2 hd0 (fun w x => NSok P0 w x) C0) (ar : Arr w0 gb 78 (hd0 v)) (hc : C0 w0 v l) : R3 B gb w0 hd0 P0 C0 v l G (fun _ => none) w0 :=
  Or.inl ⟨rfl, rfl, rfl, R2.start F ar hc⟩
theorem R3.early (F : Foc nsC 8 109 25 B gb 2 hd0 (fun w x => NSok P0 w x) C0) (h : R3 B gb w0 hd0 P0 C0 v l G vs w) (n1 : vs 1 = none) : Fr (fun q => q = gb ∨ v.ownBlock = some q) w0 w ∧ w.cell? ⟨gb, 2, none⟩ = some v := by
  rcases h with ⟨-, -, -, h⟩ | ⟨u, hd1, P1, C1, -, F1, -, -, h⟩
  · have q := (h.early n1).2.2.2.2
    exact ⟨q.fr, (q.ar.cell 2).trans (F.ge v)⟩
  · have q := (h.early n1).2.2.2.2
    exact ⟨q.fr, (q.ar.cell 2).trans (F1.ge v)⟩
theorem R3.alloc (F : Foc nsC 8 109 25 B gb 2 hd0 (fun w x => NSok P0 w x) C0) (h : R3 B gb w0 hd0 P0 C0 v l G vs w) (n1 : vs 1 = none) : R3 B gb w0 hd0 P0 C0 v l G (upv vs 0 (.slice (some ⟨w.heap.size, 0, none⟩) 1 1)) (w.alloc (.cells (nsC zS).toArray 109)) := by
  rcases h with ⟨a, b, c, h⟩ | ⟨u, hd1, P1, C1, a, F1, g, y, h⟩
  · exact Or.inl ⟨a, b, c, h.alloc F n1 (zS_ok P0 w)⟩
  · exact Or.inr ⟨u, hd1, P1, C1, a, F1, g, fun _ => (y n1).step (KP.of ((Keep.refl w).alloc _)), h.alloc F1 n1 (zS_ok P1 w)⟩
/-- What popN leaves, as step's regions use it. -/
def PopK (B gb : Nat) (v : Value) (l : List NS) (G : (Value → List Value) → (Nat → Prop) → (World → Value → List NS → Prop) → Prop) (w : World) (e : Ending) (w' : World) : Prop := ∃ u hd1 P1 C1, e = .returned u ∧ Foc nsC 8 109 25 B gb 2 hd1 (fun w x => NSok P1 w x) C1 ∧ G hd1 P1 C1 ∧ Yv P1 w' u ∧ Fr (fun q => q = gb) w w' ∧ Arr w' gb 78 (hd1 v) ∧ C1 w' v l
theorem R3.call (F : Foc nsC 8 109 25 B gb 2 hd0 (fun w x => NSok P0 w x) C0) (h : R3 B gb w0 hd0 P0 C0 v l G vs w) (n6 : vs 6 = none) : C0 w v l ∧ Arr w gb 78 (hd0 v) ∧ ∀ e w', PopK B gb v l G w e w' → ∃ u, e = .returned u ∧ R3 B gb w0 hd0 P0 C0 v l G (upv vs 6 u) w' := by
  rcases h with ⟨a, b, c, h⟩ | ⟨u, hd1, P1, C1, a, -⟩
  · obtain ⟨n2, n3, n4, -, q⟩ := h.early c
    refine ⟨q.c, q.ar, ?_⟩
    rintro e w' ⟨u, hd1, P1, C1, he, F1, hG, y, fr, ar, c1⟩
    refine ⟨u, he, Or.inr ⟨u, hd1, P1, C1, rfl, F1, hG, fun _ => y, Or.inl ⟨c, n2, n3, n4, fun _ _ => trivial, ?_⟩⟩⟩
    refine ⟨q.fr.trans (fr.mono (fun q _ e => Or.inl e)), ar, c1, fun u hu => ?_, fun u hu => ?_⟩
    · obtain ⟨g, y, y1, y2, y3, y4⟩ := q.z u hu
      refine ⟨g, y, y1, fr.arr (fun e => ?_) y2, by rw [y4]; exact zS_ok P1 w', y4⟩
      have e1 : g = gb := e
      subst e1
      have := Option.some.inj ((show w.heap[g]? = _ from y2).symm.trans q.ar)
      injection this with a b
      exact absurd b (by decide)
    · have : upv vs 6 u 5 = vs 5 := rfl
      have hu' : vs 5 = some u := hu
      rw [b] at hu'
      cases hu'
  · rw [n6] at a; cases a
theorem R3.elem (h : R3 B gb w0 hd0 P0 C0 v l G vs w) (n1 : vs 1 = none) {u : Value} (n6 : vs 6 = some u) : ∃ b m c, u = .slice b m c ∧ ∀ f, SFr f → R3 B gb w0 hd0 P0 C0 v l G (upv vs 5 (.agg (sfC f (.slice b m c) (.slice none 0 0) (.slice none 0 0)).toArray)) w := by
  rcases h with ⟨a, -⟩ | ⟨u', hd1, P1, C1, a, F1, g, y, h⟩
  · rw [n6] at a; cases a
  · rw [n6] at a
    obtain rfl := Option.some.inj a
    have hy := y n1
    obtain ⟨ua, um, uc, ex, er, rfl, hr, hw⟩ := hy
    refine ⟨ua, um, uc, rfl, fun f hf => Or.inr ⟨_, hd1, P1, C1, n6, F1, g, fun _ => y n1, ?_⟩⟩
    exact h.elem n1 ⟨f, .slice ua um uc, .slice none 0 0, .slice none 0 0, ex, .nil, .nil, er, [], []⟩ ⟨hf, hr, hw, rows_nil P1 w 8, rfl, rows_nil P1 w 8, rfl⟩ rfl
theorem R3.app (h : R3 B gb w0 hd0 P0 C0 v l G vs w) (n1 : vs 1 = none) {u0 u5 u6 : Value} (h0 : vs 0 = some u0) (h5 : vs 5 = some u5) (h6 : vs 6 = some u6) (hl : l.length ≤ 1000000) :
    ∃ g c w', (Builtin.append_ #[25, 25] 25 #[v, u0]).run Try.prog w = .ok (.slice (some ⟨g, 0, none⟩) (l.length + 1) c) w' ∧ R3 B gb w0 hd0 P0 C0 v l G (upv vs 1 (.slice (some ⟨g, 0, none⟩) (l.length + 1) c)) w' := by
  rcases h with ⟨a, -⟩ | ⟨u', hd1, P1, C1, a, F1, hG, y, h⟩
  · rw [h6] at a; cases a
  · obtain ⟨g, c, w', r1, r2⟩ := h.app F1 n1 h0 h5 hl
    exact ⟨g, c, w', r1, Or.inr ⟨u', hd1, P1, C1, a, F1, hG, (fun e => by cases e), r2⟩⟩
theorem R3.two (h : R3 B gb w0 hd0 P0 C0 v l G vs w) {u1 : Value} (n1 : vs 1 = some u1) : ∃ u hd1 P1 C1, vs 6 = some u ∧ Foc nsC 8 109 25 B gb 2 hd1 (fun w x => NSok P1 w x) C1 ∧ G hd1 P1 C1 ∧ R2 nsC 109 8 gb w0 hd1 (fun w x => NSok P1 w x) (fun x => nsz x = 1) C1 v l zS (fun _ => True) vs w := by
  rcases h with ⟨-, -, a, -⟩ | ⟨u', hd1, P1, C1, a, F1, hG, y, h⟩
  · rw [n1] at a; cases a
  · exact ⟨u', hd1, P1, C1, a, F1, hG, h⟩
theorem R3.idx (h : R3 B gb w0 hd0 P0 C0 v l G vs w) {u : Value} (n1 : vs 1 = some u) : ∃ g c, u = .slice (some ⟨g, 0, none⟩) (l.length + 1) c ∧ R3 B gb w0 hd0 P0 C0 v l G (upv vs 2 (.pointer (some ⟨g, l.length * 8, none⟩))) w := by
  obtain ⟨u', hd1, P1, C1, a, F1, hG, h⟩ := h.two n1
  obtain ⟨g, c, hu, r⟩ := h.idx n1
  exact ⟨g, c, hu, Or.inr ⟨u', hd1, P1, C1, a, F1, hG, (fun e => by rw [show upv vs 2 (.pointer (some ⟨g, l.length * 8, none⟩)) 1 = vs 1 from rfl, n1] at e; cases e), r⟩⟩
theorem R3.store (h : R3 B gb w0 hd0 P0 C0 v l G vs w) {u u2 u5 : Value} (n1 : vs 1 = some u) (n2 : vs 2 = some u2) (n5 : vs 5 = some u5) : ∃ g x P1, u2 = .pointer (some ⟨g, l.length * 8, none⟩) ∧ u5 = .agg (nsC x).toArray ∧ NSok P1 w x ∧ (∀ k < 8, ∃ u, w.cell? ⟨g, l.length * 8 + k, none⟩ = some u) ∧ (∀ k, w.frozen? ⟨g, k, none⟩ = false) ∧ ∀ d, R3 B gb w0 hd0 P0 C0 v l G (upv vs 3 d) (stC w g (l.length * 8) (nsC x)) := by
  obtain ⟨u', hd1, P1, C1, a, F1, hG, h⟩ := h.two n1
  obtain ⟨g, x, r1, r2, r3, r4, r5, r6⟩ := h.store F1 n1 n2 n5
  exact ⟨g, x, P1, r1, r2, r3, r4, r5, fun d => Or.inr ⟨u', hd1, P1, C1, a, F1, hG, (fun e => by rw [show upv vs 3 d 1 = vs 1 from rfl, n1] at e; cases e), r6 d⟩⟩
theorem R3.hdr (h : R3 B gb w0 hd0 P0 C0 v l G vs w) {u : Value} (n1 : vs 1 = some u) : ∃ b m c, u = .slice b m c ∧ (∃ u', w.cell? ⟨gb, 2, none⟩ = some u') ∧ w.frozen? ⟨gb, 2, none⟩ = false ∧ ∀ d, R3 B gb w0 hd0 P0 C0 v l G (upv vs 4 d) (w.setCell ⟨gb, 2, none⟩ (.slice b m c)) := by
  obtain ⟨u', hd1, P1, C1, a, F1, hG, h⟩ := h.two n1
  obtain ⟨b, m, c, r1, r2, r3, r4⟩ := h.hdr F1 n1
  exact ⟨b, m, c, r1, r2, r3, fun d => Or.inr ⟨u', hd1, P1, C1, a, F1, hG, (fun e => by rw [show upv vs 4 d 1 = vs 1 from rfl, n1] at e; cases e), r4 d⟩⟩
theorem R3.fin (h : R3 B gb w0 hd0 P0 C0 v l G vs w) {u u3 u4 : Value} (n1 : vs 1 = some u) (n3 : vs 3 = some u3) (n4 : vs 4 = some u4) : ∃ hd1 P1 C1 g c x, G hd1 P1 C1 ∧ nsz x = 1 ∧ Lat nsC 109 gb w0 hd1 (fun w x => NSok P1 w x) C1 v l g c x true w := by
  obtain ⟨u', hd1, P1, C1, a, F1, hG, h⟩ := h.two n1
  obtain ⟨g, c, x, hx, q⟩ := h.fin n1 n3 n4
  exact ⟨hd1, P1, C1, g, c, x, hG, hx, q⟩
end
end Go.Proofs.Qxb6500772a
