/- interpm: a state in memory, written in place; the contract of Exec. -/
import Derived.Test.Qxb6500772aXa
namespace Go.Proofs.Qxb6500772a
open Go.RowKit Go.Qm
set_option linter.unusedVariables false
set_option linter.unusedSimpArgs false
/-- A state in memory: its block gS (the slice of the cells, the fault flag), the cells' block gC. -/
structure StM (w : World) (gS gC : Nat) (ca : Option Addr) (cap : Nat) (sp : List Value) (S : PS) : Prop where
  st : Arr w gS 37 [.slice ca S.cells.length cap, .bool S.fault]
  ce : 0 < S.cells.length → ca = some ⟨gC, 0, none⟩ ∧ Arr w gC 28 (S.cells.map uv ++ sp)
  ne : gS ≠ gC
  le : S.cells.length ≤ cap
  mx : cap ≤ maxLen
def pS (gS gC q : Nat) : Prop := q = gS ∨ q = gC
section
variable {w w' : World} {gS gC : Nat} {ca : Option Addr} {cap : Nat} {sp : List Value} {S : PS}
theorem StM.vs (h : StM w gS gC ca cap sp S) : Vs w (.slice ca S.cells.length cap) S.cells := by
  refine ⟨ca, cap, by rw [List.length_map], by rw [List.length_map]; exact h.le, h.mx, fun k u hu => ?_⟩
  have hk : k < S.cells.length := by
    obtain ⟨h1, -⟩ := List.getElem?_eq_some_iff.1 hu
    simpa using h1
  obtain ⟨e, a⟩ := h.ce (by omega)
  refine ⟨gC, 0, e, ?_⟩
  rw [Nat.zero_add, a.cell, List.getElem?_append_left (by simpa using hk)]
  exact hu
theorem StM.cell (h : StM w gS gC ca cap sp S) {i : Nat} (hi : i < S.cells.length) : ca = some ⟨gC, 0, none⟩ ∧ w.cell? ⟨gC, i, none⟩ = some (.int .u64 ((S.at i : Nat) : Int)) ∧ w.frozen? ⟨gC, i, none⟩ = false := by
  obtain ⟨e, a⟩ := h.ce (by omega)
  refine ⟨e, ?_, a.frozen i⟩
  rw [a.cell, List.getElem?_append_left (by simpa using hi)]
  simp [PS.at, List.getD_eq_getElem?_getD, hi, uv]
theorem StM.keep (h : StM w gS gC ca cap sp S) (k : Keep w w') : StM w' gS gC ca cap sp S := ⟨h.st.keep k, fun a => ⟨(h.ce a).1, (h.ce a).2.keep k⟩, h.ne, h.le, h.mx⟩
theorem StM.put (h : StM w gS gC ca cap sp S) {i : Nat} (hi : i < S.cells.length) (v : Nat) : StM (w.setCell ⟨gC, i, none⟩ (.int .u64 ((v : Nat) : Int))) gS gC ca cap sp (S.put i v) := by
  obtain ⟨e, a⟩ := h.ce (by omega)
  have f : Fr (fun q => q = gC) w (w.setCell ⟨gC, i, none⟩ (.int .u64 ((v : Nat) : Int))) := Fr.setCell (p := ⟨gC, i, none⟩) (Fr.refl (fun q => q = gC) w) (Or.inl rfl) _
  refine ⟨by simpa [PS.put] using f.arr (fun e => h.ne e) h.st, fun _ => ⟨e, ?_⟩, h.ne, by simpa [PS.put] using h.le, h.mx⟩
  have := a.set i (.int .u64 ((v : Nat) : Int))
  rw [List.set_append_left _ _ (by simpa using hi)] at this
  simpa [PS.put, List.map_set, uv] using this
theorem StM.flt (h : StM w gS gC ca cap sp S) (b : Bool) : StM (w.setCell ⟨gS, 1, none⟩ (.bool b)) gS gC ca cap sp ⟨S.cells, b⟩ := by
  have f : Fr (fun q => q = gS) w (w.setCell ⟨gS, 1, none⟩ (.bool b)) := Fr.setCell (p := ⟨gS, 1, none⟩) (Fr.refl (fun q => q = gS) w) (Or.inl rfl) _
  exact ⟨h.st.set 1 _, fun a => ⟨(h.ce a).1, f.arr (fun e => h.ne e.symm) (h.ce a).2⟩, h.ne, h.le, h.mx⟩
theorem StM.fs (h : StM w gS gC ca cap sp S) : w.cell? ⟨gS, 0, none⟩ = some (.slice ca S.cells.length cap) ∧ w.cell? ⟨gS, 1, none⟩ = some (.bool S.fault) ∧ w.frozen? ⟨gS, 1, none⟩ = false := ⟨h.st.cell 0, h.st.cell 1, h.st.frozen 1⟩
theorem frC (w : World) (gS gC i : Nat) (u : Value) : Fr (pS gS gC) w (w.setCell ⟨gC, i, none⟩ u) := Fr.setCell (p := ⟨gC, i, none⟩) (Fr.refl _ w) (Or.inl (Or.inr rfl)) _
theorem frS (w : World) (gS gC : Nat) (b : Bool) : Fr (pS gS gC) w (w.setCell ⟨gS, 1, none⟩ (.bool b)) := Fr.setCell (p := ⟨gS, 1, none⟩) (Fr.refl _ w) (Or.inl (Or.inl rfl)) _
end
theorem put_len (S : PS) (i v : Nat) : (S.put i v).cells.length = S.cells.length := by simp [PS.put]
/-- exL, as a fold. -/
def exX (ws : List Int) (S : PS) (x : SF × EL × SL × SL) : PS := exOne ws x.1 (evL x.2.1 S) x.2.1.ws (exL ws x.2.2.1) (exL ws x.2.2.2) S
theorem exL_fold (ws : List Int) : ∀ (t : SL) (S : PS), exL ws t S = t.toL.foldl (exX ws) S
  | .nil, S => rfl
  | .cons f ex th el r, S => by rw [exL, SL.toL, List.foldl_cons, exL_fold ws r]; rfl
theorem wtS_mem {ws : List Int} : ∀ {t : SL}, wtS ws t → ∀ x ∈ t.toL, wtL ws x.2.1 ∧ wtS1 ws x.1 x.2.1.ws (wtS ws x.2.2.1) (wtS ws x.2.2.2) x.2.2.1.len x.2.2.2.len
  | .nil, _, x, hx => by simp [SL.toL] at hx
  | .cons f ex th el r, h, x, hx => by
    simp only [SL.toL, List.mem_cons] at hx
    rcases hx with rfl | hx
    · exact ⟨h.1, h.2.1⟩
    · exact wtS_mem h.2.2 x hx
theorem exX_ok {ws : List Int} (hW : WsOK ws) {x : SF × EL × SL × SL} (h : wtL ws x.2.1 ∧ wtS1 ws x.1 x.2.1.ws (wtS ws x.2.2.1) (wtS ws x.2.2.2) x.2.2.1.len x.2.2.2.len) {S : PS} (hS : StOK ws S) : StOK ws (exX ws S x) := exOne_ok hW h.1 h.2 (fun hT S hS => exL_ok hW hT hS) (fun hE S hS => exL_ok hW hE hS) hS
theorem exF_ok {ws : List Int} (hW : WsOK ws) (l : List (SF × EL × SL × SL)) : (∀ x ∈ l, wtL ws x.2.1 ∧ wtS1 ws x.1 x.2.1.ws (wtS ws x.2.2.1) (wtS ws x.2.2.2) x.2.2.1.len x.2.2.2.len) → ∀ S, StOK ws S → StOK ws (l.foldl (exX ws) S) := by
  induction l with
  | nil => intro _ S h; exact h
  | cons x l ih => intro hl S h; rw [List.foldl_cons]; exact ih (fun y hy => hl y (by simp [hy])) _ (exX_ok hW (hl x (by simp)) h)
/-- The contract of Exec. -/
def ExC (P : Nat → Prop) (cs : List Cel) (fb : EF) (t : SL) : Prop :=
  ∀ (w : World) (cv bv kb v : Value) (rows : List (List Value)) (gS gC : Nat) (ca : Option Addr) (cap : Nat) (sp : List Value) (S : PS), (∀ q, P q → ¬ pS gS gC q) → CsW P w cv cs → isSl bv → isSl kb → Rows P w v 8 rows → SLW P w t rows → wtS (cs.map (·.w)) t → StM w gS gC ca cap sp S → StOK (cs.map (·.w)) S → gC < w.heap.size →
    Calls Try.prog 12 #[prA cv bv fb kb, v, .pointer (some ⟨gS, 0, none⟩)] w fun e w' => e = .returned (.tuple #[]) ∧ StM w' gS gC ca cap sp (exL (cs.map (·.w)) t S) ∧ Fr (pS gS gC) w w'
end Go.Proofs.Qxb6500772a
