/- circuitm: a circuit in memory; add. -/
import Derived.Test.Qxb6500772aMg
import Derived.Test.Qxb6500772aVc
import Derived.Test.Qxb6500772aProg
namespace Go.Proofs.Qxb6500772a
open Go.RowKit Go.Qm
set_option linter.unusedVariables false
set_option linter.unusedSimpArgs false
attribute [local go_sem ↓] Go.wp_at_zero Go.wp_at_succ
/-- A gate: its kind, two numbers, an operator, two words (numbers of gates). -/
structure Gate where
  k : Nat
  a : Nat
  b : Nat
  op : Nat
  x : List Nat
  y : List Nat
def bv (n : Nat) : Value := .int .i64 (n : Nat)
/-- A word in memory: read only. -/
def Wd (w : World) (v : Value) (l : List Nat) : Prop := Sl w v (l.map bv)
abbrev GRow := Gate × Value × Value
def gateC (r : GRow) : List Value := [.int .i64 (r.1.k : Nat), .int .i64 (r.1.a : Nat), .int .i64 (r.1.b : Nat), .int .i64 (r.1.op : Nat), r.2.1, r.2.2]
theorem gateC_len (r : GRow) : (gateC r).length = 6 := rfl
def fpC (gc : Nat) (gv : Value) (q : Nat) : Prop := q = gc ∨ gv.ownBlock = some q
structure RowOK (w : World) (fp : Nat → Prop) (r : GRow) : Prop where
  x : Wd w r.2.1 r.1.x
  y : Wd w r.2.2 r.1.y
  nx : ∀ q, r.2.1.ownBlock = some q → ¬ fp q ∧ q < w.heap.size
  ny : ∀ q, r.2.2.ownBlock = some q → ¬ fp q ∧ q < w.heap.size
structure CW (B : Nat) (w : World) (gc : Nat) (gv : Value) (R : List GRow) (n : Nat) : Prop where
  arr : Arr w gc 101 [gv, .int .i64 (n : Nat)]
  own : OwnS gateC 6 103 B w gv R
  row : ∀ r ∈ R, RowOK w (fpC gc gv) r
  nov : gv.ownBlock ≠ some gc
  lo : B ≤ gc
def Stp (fp fp' : Nat → Prop) (w w' : World) : Prop := Fr fp w w' ∧ ∀ q, fp' q → fp q ∨ w.heap.size ≤ q
theorem Stp.trans {a b c : Nat → Prop} {u v w : World} (h : Stp a b u v) (k : Stp b c v w) : Stp a c u w := by
  refine ⟨⟨k.1.os.trans h.1.os, k.1.tape.trans h.1.tape, k.1.output.trans h.1.output, Nat.le_trans h.1.size k.1.size, fun q hq hp => ?_⟩, fun q hq => ?_⟩
  · rw [k.1.block q (Nat.lt_of_lt_of_le hq h.1.size) (fun hb => by
      rcases h.2 q hb with e | e
      · exact hp e
      · omega)]
    exact h.1.block q hq hp
  · rcases k.2 q hq with e | e
    · exact h.2 q e
    · exact Or.inr (Nat.le_trans h.1.size e)
theorem Stp.keep {fp : Nat → Prop} {w w' : World} (k : Keep w w') : Stp fp fp w w' := ⟨Fr.keep k, fun _ a => Or.inl a⟩
theorem Wd.fr {P : Nat → Prop} {w w' : World} {v : Value} {l : List Nat} (h : Wd w v l) (k : Fr P w w') (hp : ∀ q, v.ownBlock = some q → ¬ P q ∧ q < w.heap.size) : Wd w' v l := by
  obtain ⟨a, c, hv, h1, h2, h3⟩ := h
  refine ⟨a, c, hv, h1, h2, fun i u hu => ?_⟩
  obtain ⟨b, o, ha, hc⟩ := h3 i u hu
  refine ⟨b, o, ha, ?_⟩
  have hb := hp b (by rw [hv, ha]; rfl)
  have e := k.block b hb.2 hb.1
  simp only [World.cell?, e] at hc ⊢
  exact hc
theorem RowOK.step {fp fp' : Nat → Prop} {w w' : World} {r : GRow} (h : RowOK w fp r) (s : Stp fp fp' w w') : RowOK w' fp' r :=
  ⟨h.x.fr s.1 h.nx, h.y.fr s.1 h.ny, fun q hq => ⟨fun a => by
      rcases s.2 q a with e | e
      · exact (h.nx q hq).1 e
      · have := (h.nx q hq).2; omega, Nat.lt_of_lt_of_le (h.nx q hq).2 s.1.size⟩, fun q hq => ⟨fun a => by
      rcases s.2 q a with e | e
      · exact (h.ny q hq).1 e
      · have := (h.ny q hq).2; omega, Nat.lt_of_lt_of_le (h.ny q hq).2 s.1.size⟩⟩
theorem CW.keep {B gc n : Nat} {w w' : World} {gv : Value} {R : List GRow} (h : CW B w gc gv R n) (k : Keep w w') : CW B w' gc gv R n :=
  ⟨h.arr.keep k, h.own.keep k, fun r hr => (h.row r hr).step (Stp.keep k), h.nov, h.lo⟩
theorem inf103 : (Try.prog.info? 103).map (fun i => (i.zero, i.size, i.bytes)) = some (some (.agg (gateC (⟨0, 0, 0, 0, [], []⟩, .slice none 0 0, .slice none 0 0)).toArray), 6, 80) := by kernel_rfl
end Go.Proofs.Qxb6500772a
