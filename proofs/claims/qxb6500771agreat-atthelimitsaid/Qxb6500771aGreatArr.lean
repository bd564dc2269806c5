/- Arrays of one-cell elements, each a block of its own: made, read, written, loaded and laid whole. -/
import Derived.Test.Qxb6500771aGreatPad
import Derived.Laws.Tables
import Derived.Laws.Rows
namespace Go.Qm
open Go Go.RowKit
theorem wpList_alloc_z {P : Program} {ops : Array Oper} {rest : List Oper} {o : Oper} {a : Act} {w : World} {Q : Exit → Act → World → Prop} (hgd : o.guard = none) (ty : TypeId) (ho : o.op = .alloc ty) (cs : List Value)
    (hz : (P.info? ty).map (·.zero) = some (some (.agg cs.toArray)))
    (h : wpList P ops Q rest (a.put o.dst (.pointer (some ⟨w.heap.size, 0, none⟩))) (w.alloc (.cells cs.toArray ty))) : wpList P ops Q (o :: rest) a w := by
  refine wpList_plain hgd fun _ hK => ?_
  cases hq : P.info? ty with
  | none => simp [hq] at hz
  | some i =>
    simp [hq] at hz
    unfold Oper.wp execOp
    simp only [ho]
    simp [go_sem, Instr.alloc, zeroValue, typeInfo, hq, hz, Value.cells]
    exact hK _ _ h
def Arr (w : World) (g : Nat) (t : TypeId) (cs : List Value) : Prop := w.heap[g]? = some (.cells cs.toArray t (0, 0))
section
variable {w w' : World} {g : Nat} {t : TypeId} {cs : List Value}
theorem Arr.keep (h : Arr w g t cs) (k : Keep w w') : Arr w' g t cs := k.heap h
theorem Arr.lt (h : Arr w g t cs) : g < w.heap.size := blk_lt h
theorem Arr.new (w : World) (t : TypeId) (cs : List Value) : Arr (w.alloc (.cells cs.toArray t)) w.heap.size t cs := heap_alloc_new w _
theorem Arr.drew (h : Arr w g t cs) : Arr w.drew g t cs := h
theorem Arr.drewN (h : Arr w g t cs) (n : Nat) : Arr (w.drewN n) g t cs := h
theorem Arr.cell (h : Arr w g t cs) (i : Nat) : w.cell? ⟨g, i, none⟩ = cs[i]? := blk_cell h i
theorem Arr.frozen (h : Arr w g t cs) (i : Nat) : w.frozen? ⟨g, i, none⟩ = false := blk_frozen h i
theorem Arr.set (h : Arr w g t cs) (i : Nat) (u : Value) : Arr (w.setCell ⟨g, i, none⟩ u) g t (cs.set i u) := blk_set h i u
theorem Arr.row (h : Arr w g t cs) (ds : List Value) : Arr (w.setRow g ds.toArray) g t ds := setRow_blk h ds
theorem Arr.kept (h : Arr w g t cs) {g' : Nat} (hg : w.grownBy w' (some g')) (hne : g ≠ g') : Arr w' g t cs := (hg.block g h.lt (by simpa using hne)).trans h
end
def u32v (x : Int) : Value := .int .u32 x
def u64v (x : Int) : Value := .int .u64 x
end Go.Qm
