/- unionvfsm: the model's memory. -/
import Derived.Test.Qxb6500767aGj
namespace Go.Proofs.Qxb6500767a
open Go.RowKit Go.Qm
set_option linter.unusedVariables false
set_option linter.unusedSimpArgs false
/-- The bit m is set. -/
def bt (f m : Int) : Bool := !nob f m
/-- A row of the model: the number and what the handle holds. -/
def mopC (x : Nat × Hd) : List Value := [.int .i64 (x.1 : Nat), .int .i64 (x.2.node : Nat), .bool (bt x.2.flags 1), .bool (bt x.2.flags 2), .bool (bt x.2.flags 32), .int .i64 (x.2.off : Nat), str x.2.cur]
theorem mopC_len (x : Nat × Hd) : (mopC x).length = 7 := rfl
def rowsOf (hs : List Hd) (O : List Nat) : List (Nat × Hd) := O.map fun n => (n, hat hs n)
theorem rowsOf_len (hs : List Hd) (O : List Nat) : (rowsOf hs O).length = O.length := by simp [rowsOf]
/-- The numbers in the order of opening. -/
structure OR (u : Nat) (hs : List Hd) (O : List Nat) : Prop where
  nd : O.Nodup
  mem : ∀ n, n ∈ O ↔ (n < 32 ∧ u.testBit n = true)
  hl : hs.length = 32
structure MW (B : Nat) (fp : Nat → Prop) (w : World) (gm gt : Nat) (s : Stt) (O : List Nat) (ov : Value) : Prop where
  tree : TreeW B fp w gt s.T
  arr : Arr w gm 46 [.pointer (some ⟨gt, 0, none⟩), ov]
  own : OwnS mopC 7 91 B w ov (rowsOf s.hs O)
  rel : OR s.u s.hs O
  nfp : ¬ fp gm
  nov : ∀ q, ov.ownBlock = some q → ¬ fp q ∧ q ≠ gm
  lo : B ≤ gm
def fpM (fp : Nat → Prop) (gm : Nat) (ov : Value) (q : Nat) : Prop := fp q ∨ q = gm ∨ ov.ownBlock = some q
section
variable {B gm gt : Nat} {fp fp' : Nat → Prop} {w w' : World} {s : Stt} {O : List Nat} {ov : Value}
theorem MW.keep (h : MW B fp w gm gt s O ov) (k : Keep w w') : MW B fp w' gm gt s O ov := ⟨h.tree.keep k, h.arr.keep k, h.own.keep k, h.rel, h.nfp, h.nov, h.lo⟩
theorem MW.fr {P : Nat → Prop} (h : MW B fp w gm gt s O ov) (k : Fr P w w') (hp : ∀ q, fpM fp gm ov q → ¬ P q) : MW B fp w' gm gt s O ov :=
  ⟨h.tree.fr k (fun q a => hp q (Or.inl a)), k.arr (hp gm (Or.inr (Or.inl rfl))) h.arr, h.own.fr k (fun q a => hp q (Or.inr (Or.inr a))), h.rel, h.nfp, h.nov, h.lo⟩
theorem MW.flt (h : MW B fp w gm gt s O ov) {q : Nat} (hq : fpM fp gm ov q) : B ≤ q ∧ q < w.heap.size := by
  rcases hq with a | a | a
  · exact h.tree.own a
  · rw [a]; exact ⟨h.lo, h.arr.lt⟩
  · exact h.own.lt q a
theorem MW.cells (h : MW B fp w gm gt s O ov) : w.cell? ⟨gm, 0, none⟩ = some (.pointer (some ⟨gt, 0, none⟩)) ∧ w.cell? ⟨gm, 1, none⟩ = some ov := ⟨h.arr.cell 0, h.arr.cell 1⟩
/-- The slice's form. -/
theorem MW.form (h : MW B fp w gm gt s O ov) : ∃ a c, ov = .slice a O.length c ∧ O.length ≤ c ∧ c ≤ maxLen := by
  rcases h.own.form with ⟨e1, e2⟩ | ⟨g, cap, cur, e1, -, -, e3, e4, -, -⟩
  · have : O = [] := by simpa [rowsOf] using e2
    subst this
    exact ⟨none, 0, e1, Nat.le_refl _, by unfold maxLen; omega⟩
  · rw [rowsOf_len] at e1 e3
    exact ⟨some ⟨g, 0, none⟩, cap, e1, e3, e4⟩
/-- What row i holds. -/
theorem MW.row (h : MW B fp w gm gt s O ov) {i : Nat} (hi : i < O.length) : ∃ g c, ov = .slice (some ⟨g, 0, none⟩) O.length c ∧ O.length ≤ c ∧ c ≤ maxLen ∧ (∀ j, w.frozen? ⟨g, j, none⟩ = false) ∧
    w.cell? ⟨g, i * 7, none⟩ = some (.int .i64 (O[i] : Nat)) ∧ w.cell? ⟨g, i * 7 + 1, none⟩ = some (.int .i64 ((hat s.hs O[i]).node : Nat)) ∧ w.cell? ⟨g, i * 7 + 2, none⟩ = some (.bool (bt (hat s.hs O[i]).flags 1)) ∧ w.cell? ⟨g, i * 7 + 3, none⟩ = some (.bool (bt (hat s.hs O[i]).flags 2)) ∧
    w.cell? ⟨g, i * 7 + 4, none⟩ = some (.bool (bt (hat s.hs O[i]).flags 32)) ∧ w.cell? ⟨g, i * 7 + 5, none⟩ = some (.int .i64 ((hat s.hs O[i]).off : Nat)) ∧ w.cell? ⟨g, i * 7 + 6, none⟩ = some (str (hat s.hs O[i]).cur) := by
  rcases h.own.form with ⟨e1, e2⟩ | ⟨g, cap, cur, e1, -, hA, e3, e4, -, ht⟩
  · have : O = [] := by simpa [rowsOf] using e2
    subst this
    simp at hi
  · have hi' : i < (rowsOf s.hs O).length := by rw [rowsOf_len]; exact hi
    have eL : (rowsOf s.hs O)[i] = (O[i], hat s.hs O[i]) := by simp [rowsOf]
    have G := fun j (hj : j < 7) => (hA.cell (i * 7 + j)).trans (flat_take_get (fun x => mopC_len x) ht i j hi' hj)
    rw [eL] at G
    rw [rowsOf_len] at e1 e3
    exact ⟨g, cap, e1, e3, e4, fun j => hA.frozen j, G 0 (by omega), G 1 (by omega), G 2 (by omega), G 3 (by omega), G 4 (by omega), G 5 (by omega), G 6 (by omega)⟩
/-- The tree has made a step. -/
theorem MW.step (h : MW B fp w gm gt s O ov) {T' : List Nd} (t : TreeW B fp' w' gt T') (st : Stp fp fp' w w') : MW B fp' w' gm gt ⟨s.u, s.hs, T'⟩ O ov ∧ Stp (fpM fp gm ov) (fpM fp' gm ov) w w' := by
  have hlt := h.arr.lt
  refine ⟨⟨t, st.1.arr h.nfp h.arr, h.own.fr st.1 (fun q a => (h.nov q a).1), h.rel, fun a => ?_, fun q hq => ⟨fun a => ?_, (h.nov q hq).2⟩, h.lo⟩, st.1.mono (fun q _ a => Or.inl a), fun q a => ?_⟩
  · rcases st.2 gm a with b | b
    · exact h.nfp b
    · omega
  · rcases st.2 q a with b | b
    · exact (h.nov q hq).1 b
    · have := (h.own.lt q hq).2; omega
  · rcases a with a | a
    · rcases st.2 q a with b | b
      · exact Or.inl (Or.inl b)
      · exact Or.inr b
    · exact Or.inl (Or.inr a)
theorem rowsOf_set {hs : List Hd} {O : List Nat} {i : Nat} (hi : i < O.length) (hn : O.Nodup) (hl : O[i] < hs.length) (x : Hd) : (rowsOf hs O).set i (O[i], x) = rowsOf (hs.set O[i] x) O := by
  apply List.ext_getElem
  · simp [rowsOf]
  · intro j h1 h2
    have hj : j < O.length := by simpa [rowsOf] using h2
    have e1 : ∀ (hs' : List Hd) (hj' : j < (rowsOf hs' O).length), (rowsOf hs' O)[j] = (O[j], hat hs' O[j]) := fun hs' hj' => by simp [rowsOf]
    rw [List.getElem_set, e1, e1]
    by_cases e : i = j
    · subst e; rw [if_pos rfl, hat_set hl]
    · rw [if_neg e, hat_set_ne]
      exact fun e2 => e ((List.getElem_inj hn).1 e2)
theorem OR.set {u : Nat} {hs : List Hd} {O : List Nat} (h : OR u hs O) (n : Nat) (x : Hd) : OR u (hs.set n x) O := ⟨h.nd, h.mem, by simpa using h.hl⟩
/-- One cell of a row is written. -/
theorem MW.hset (h : MW B fp w gm gt s O ov) {i : Nat} (hi : i < O.length) {j : Nat} (hj : j < 7) (x : Hd) (u : Value) (hx : mopC (O[i], x) = (mopC (O[i], hat s.hs O[i])).set j u) {g : Nat} (hg : ov.ownBlock = some g) :
    MW B fp (w.setCell ⟨g, i * 7 + j, none⟩ u) gm gt ⟨s.u, s.hs.set O[i] x, s.T⟩ O ov ∧ Stp (fpM fp gm ov) (fpM fp gm ov) w (w.setCell ⟨g, i * 7 + j, none⟩ u) := by
  have hlt : O[i] < s.hs.length := by rw [h.rel.hl]; exact ((h.rel.mem _).1 (List.getElem_mem hi)).1
  have k : Fr (fun q => q = g) w (w.setCell ⟨g, i * 7 + j, none⟩ u) := Fr.setCell (p := ⟨g, i * 7 + j, none⟩) (Fr.refl (fun q => q = g) w) (Or.inl rfl) u
  have n1 := h.nov g hg
  have hi' : i < (rowsOf s.hs O).length := by rw [rowsOf_len]; exact hi
  have o1 := h.own.setc (fun x => mopC_len x) hi' hj (O[i], x) u (by simpa [rowsOf] using hx) hg
  rw [rowsOf_set hi h.rel.nd hlt x] at o1
  exact ⟨⟨h.tree.fr k (fun q a e => n1.1 (by rw [← e]; exact a)), k.arr (Ne.symm n1.2) h.arr, o1, h.rel.set _ _, h.nfp, h.nov, h.lo⟩, k.mono (fun q _ a => Or.inr (Or.inr (by rw [a]; exact hg))), fun q a => Or.inl a⟩
theorem OR.idx {u : Nat} {hs : List Hd} {O : List Nat} (h : OR u hs O) {x : Int} (ho : opn u x = true) : ∃ i, ∃ hi : i < O.length, x = (O[i] : Nat) ∧ x.toNat = O[i] := by
  unfold opn at ho
  simp only [Bool.and_eq_true, decide_eq_true_eq] at ho
  have hm := (h.mem x.toNat).2 ⟨by omega, ho.2⟩
  obtain ⟨i, hi, e⟩ := List.mem_iff_getElem.1 hm
  exact ⟨i, hi, by omega, e.symm⟩
theorem OR.out {u : Nat} {hs : List Hd} {O : List Nat} (h : OR u hs O) {x : Int} (ho : opn u x = false) : ∀ i (hi : i < O.length), ((O[i] : Nat) : Int) ≠ x := by
  intro i hi e
  have := (h.mem O[i]).1 (List.getElem_mem hi)
  have h2 : opn u x = true := by
    unfold opn
    rw [← e]
    simp [this.2]
    omega
  rw [ho] at h2
  simp at h2
end
end Go.Proofs.Qxb6500767a
