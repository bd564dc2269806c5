/- Frames: all blocks but some are as they were. -/
import Derived.Test.Qxb6500772aRa
namespace Go.Qm
open Go Go.RowKit
/-- All blocks but those of P are as they were. -/
structure Fr (P : Nat → Prop) (w w' : World) : Prop where
  os : w'.os = w.os
  tape : w'.tape = w.tape
  output : w'.output = w.output
  size : w.heap.size ≤ w'.heap.size
  block : ∀ k, k < w.heap.size → ¬ P k → w'.heap[k]? = w.heap[k]?
theorem Fr.refl (P : Nat → Prop) (w : World) : Fr P w w := ⟨rfl, rfl, rfl, Nat.le_refl _, fun _ _ _ => rfl⟩
theorem Fr.trans {P : Nat → Prop} {a b c : World} (h : Fr P a b) (k : Fr P b c) : Fr P a c :=
  ⟨k.os.trans h.os, k.tape.trans h.tape, k.output.trans h.output, Nat.le_trans h.size k.size, fun i hi hp => (k.block i (Nat.lt_of_lt_of_le hi h.size) hp).trans (h.block i hi hp)⟩
theorem Fr.mono {P Q : Nat → Prop} {a b : World} (h : Fr P a b) (hq : ∀ k, k < a.heap.size → P k → Q k) : Fr Q a b := ⟨h.os, h.tape, h.output, h.size, fun k hk hp => h.block k hk (fun a => hp (hq k hk a))⟩
theorem Fr.keep {P : Nat → Prop} {a b : World} (h : Keep a b) : Fr P a b := ⟨h.os, h.tape, h.output, h.size, fun k hk _ => h.block k hk⟩
theorem Fr.grown {P : Nat → Prop} {a b : World} {row : Option Nat} (h : a.grownBy b row) (hr : ∀ k, row = some k → P k) : Fr P a b := ⟨h.os, h.tape, h.output, h.size, fun k hk hp => h.block k hk (fun e => hp (hr k e.symm))⟩
theorem Fr.setCell {P : Nat → Prop} {a b : World} (h : Fr P a b) {p : Addr} (hp : P p.block ∨ a.heap.size ≤ p.block) (u : Value) : Fr P a (b.setCell p u) :=
  ⟨h.os, h.tape, h.output, by simpa using h.size, fun k hk hn => by
    rw [heap_setCell_other b p k u (by
      intro e
      subst e
      rcases hp with q | q
      · exact hn q
      · omega)]
    exact h.block k hk hn⟩
theorem Fr.alloc {P : Nat → Prop} {a b : World} (h : Fr P a b) (o : Obj) : Fr P a (b.alloc o) :=
  ⟨h.os, h.tape, h.output, by have := h.size; simp; omega, fun k hk hn => by rw [heap_alloc_old b o (by have := h.size; omega)]; exact h.block k hk hn⟩
theorem Fr.heap {P : Nat → Prop} {a b : World} (h : Fr P a b) {g : Nat} {o : Obj} (hp : ¬ P g) (hc : a.heap[g]? = some o) : b.heap[g]? = some o := (h.block g (blk_lt hc) hp).trans hc
theorem Fr.arr {P : Nat → Prop} {a b : World} (h : Fr P a b) {g : Nat} {t : TypeId} {cs : List Value} (hp : ¬ P g) (hc : Arr a g t cs) : Arr b g t cs := h.heap hp hc
/-- A cell is set, in this block or in another. -/
theorem Arr.setAny {w : World} {g : Nat} {t : TypeId} {cs : List Value} (h : Arr w g t cs) (g2 i : Nat) (u : Value) : Arr (w.setCell ⟨g2, i, none⟩ u) g t (if g = g2 then cs.set i u else cs) := by
  by_cases e : g = g2
  · subst e; rw [if_pos rfl]; exact h.set i u
  · rw [if_neg e]; exact h.kept (grown_set (grown_refl w _) i u) e
end Go.Qm
namespace Go.Proofs.Qxb6500772a
open Go.RowKit Go.Qm
set_option linter.unusedVariables false
set_option linter.unusedSimpArgs false
attribute [local go_sem ↓] Go.wp_at_zero Go.wp_at_succ
end Go.Proofs.Qxb6500772a
