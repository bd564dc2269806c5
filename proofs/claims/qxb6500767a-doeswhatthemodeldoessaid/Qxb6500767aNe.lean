/- unionvfsm: a row of the model, seek. -/
import Derived.Test.Qxb6500767aNc
namespace Go.Proofs.Qxb6500767a
open Go.RowKit Go.Qm
set_option linter.unusedVariables false
set_option linter.unusedSimpArgs false
attribute [local go_sem ↓] Go.wp_at_zero Go.wp_at_succ
section
variable {B gm gt : Nat} {fp fp' : Nat → Prop} {w w' : World} {s : Stt} {O : List Nat} {g n c : Nat}
theorem MW.rowAt (h : MW B fp w gm gt s O (.slice (some ⟨g, 0, none⟩) n c)) {i : Nat} (hi : i < O.length) : (∀ j, w.frozen? ⟨g, j, none⟩ = false) ∧
    w.cell? ⟨g, i * 7, none⟩ = some (.int .i64 (O[i] : Nat)) ∧ w.cell? ⟨g, i * 7 + 1, none⟩ = some (.int .i64 ((hat s.hs O[i]).node : Nat)) ∧ w.cell? ⟨g, i * 7 + 2, none⟩ = some (.bool (bt (hat s.hs O[i]).flags 1)) ∧ w.cell? ⟨g, i * 7 + 3, none⟩ = some (.bool (bt (hat s.hs O[i]).flags 2)) ∧
    w.cell? ⟨g, i * 7 + 4, none⟩ = some (.bool (bt (hat s.hs O[i]).flags 32)) ∧ w.cell? ⟨g, i * 7 + 5, none⟩ = some (.int .i64 ((hat s.hs O[i]).off : Nat)) ∧ w.cell? ⟨g, i * 7 + 6, none⟩ = some (str (hat s.hs O[i]).cur) := by
  obtain ⟨g', c', e, -, -, r⟩ := h.row hi
  injection e with e1 e2 e3
  injection e1 with e1
  injection e1 with e1
  subst e1
  exact r
theorem MW.setOff (h : MW B fp w gm gt s O (.slice (some ⟨g, 0, none⟩) n c)) {i : Nat} (hi : i < O.length) (z : Nat) : MW B fp (w.setCell ⟨g, i * 7 + 5, none⟩ (.int .i64 (z : Nat))) gm gt ⟨s.u, s.hs.set O[i] { hat s.hs O[i] with off := z }, s.T⟩ O (.slice (some ⟨g, 0, none⟩) n c) ∧
    Stp (fpM fp gm (.slice (some ⟨g, 0, none⟩) n c)) (fpM fp gm (.slice (some ⟨g, 0, none⟩) n c)) w (w.setCell ⟨g, i * 7 + 5, none⟩ (.int .i64 (z : Nat))) := h.hset hi (by omega) _ _ rfl rfl
theorem MW.setCur (h : MW B fp w gm gt s O (.slice (some ⟨g, 0, none⟩) n c)) {i : Nat} (hi : i < O.length) (z : List UInt8) : MW B fp (w.setCell ⟨g, i * 7 + 6, none⟩ (str z)) gm gt ⟨s.u, s.hs.set O[i] { hat s.hs O[i] with cur := z }, s.T⟩ O (.slice (some ⟨g, 0, none⟩) n c) ∧
    Stp (fpM fp gm (.slice (some ⟨g, 0, none⟩) n c)) (fpM fp gm (.slice (some ⟨g, 0, none⟩) n c)) w (w.setCell ⟨g, i * 7 + 6, none⟩ (str z)) := h.hset hi (by omega) _ _ rfl rfl
/-- What a walk knows of an open handle. -/
structure HX (s : Stt) (O : List Nat) (i : Nat) (hi : i < O.length) : Prop where
  lt : O[i] < 32
  bit : s.u.testBit O[i] = true
  nl : (hat s.hs O[i]).node < s.T.length
  dir : (hat s.hs O[i]).dir = decide ((at' s.T (hat s.hs O[i]).node).kind = 2)
  kd : (at' s.T (hat s.hs O[i]).node).kind = 1 ∨ (at' s.T (hat s.hs O[i]).node).kind = 2
  off : (hat s.hs O[i]).off ≤ 1048576
  cur : (hat s.hs O[i]).cur.length ≤ 4000
  op : 1 ≤ (at' s.T (hat s.hs O[i]).node).opens
theorem HX.of {k : Nat} (r : OR s.u s.hs O) (si : SI k s.u s.hs s.T) {i : Nat} (hi : i < O.length) : HX s O i hi := by
  obtain ⟨h1, h2⟩ := (r.mem _).1 (List.getElem_mem hi)
  exact ⟨h1, h2, si.h.node _ h1 h2, (si.h.nd _ h1 h2).2, (si.h.nd _ h1 h2).1, si.h.off _ h1, si.h.cur _ h1, si.h.opos h1 h2⟩
theorem get0 {u : Nat} {hs : List Hd} {h : Int} (fl : FL hs) : getOK u hs h 0 = opn u h := by
  unfold getOK
  rw [(flR (fl h.toNat).1 (fl h.toNat).2.1).g0, Bool.and_true]
theorem get1 {u : Nat} {hs : List Hd} {h : Int} (fl : FL hs) : getOK u hs h 1 = (opn u h && bt (hat hs h.toNat).flags 1) := by
  unfold getOK
  rw [(flR (fl h.toNat).1 (fl h.toNat).2.1).g1]
theorem get2 {u : Nat} {hs : List Hd} {h : Int} (fl : FL hs) : getOK u hs h 2 = (opn u h && bt (hat hs h.toNat).flags 2) := by
  unfold getOK
  rw [(flR (fl h.toNat).1 (fl h.toNat).2.1).g2]
end
end Go.Proofs.Qxb6500767a
