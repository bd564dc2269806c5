/- foldkeym: the list of decompositions; pair; expand. -/
import Derived.Test.Qxb6500767aKa
import Derived.Great.Walk
namespace Go.Qm
open Go Go.RowKit
def stepB (P : Program) (o : Oper) (a : Act) : Option Act :=
  match o.guard, o.op with
  | none, .build t parts => (P.built t (parts.map fun (i, x) => (i, a.eval x)).toList).map fun c => a.put o.dst (.agg c)
  | _, _ => none
def stepsB (P : Program) : List Oper → Act → Option Act
  | [], a => some a
  | o :: l, a => (stepB P o a).bind (stepsB P l)
theorem wpList_stepsB {P : Program} {ops : Array Oper} {Q : Exit → Act → World → Prop} {w : World} : ∀ (n : Nat) (l : List Oper) (a a' : Act), stepsB P (l.take n) a = some a' → wpList P ops Q (l.drop n) a' w → wpList P ops Q l a w
  | 0, l, a, a', h, hk => by
    simp [stepsB] at h
    subst h
    exact hk
  | n + 1, [], a, a', h, hk => by
    simp [stepsB] at h
    subst h
    exact hk
  | n + 1, o :: l, a, a', h, hk => by
    simp only [List.take_succ_cons, stepsB] at h
    simp only [List.drop_succ_cons] at hk
    cases hs : stepB P o a with
    | none => rw [hs] at h; simp at h
    | some a1 =>
      rw [hs] at h
      simp only [Option.bind_some] at h
      have ih := wpList_stepsB (ops := ops) (Q := Q) (w := w) n l a1 a' h hk
      unfold stepB at hs
      split at hs
      · rename_i t parts hg ho
        cases hb : P.built t (parts.map fun (i, x) => (i, a.eval x)).toList with
        | none => rw [hb] at hs; simp at hs
        | some c =>
          rw [hb] at hs
          simp only [Option.map_some, Option.some.injEq] at hs
          refine wpList_build hg t parts ho (by rw [hb]; rfl) ?_
          rw [hb]
          simp only [Option.getD_some]
          rw [hs]
          exact ih
      · simp at hs
end Go.Qm
namespace Go.Proofs.Qxb6500767a
open Go.RowKit Go.Qm
set_option linter.unusedVariables false
set_option linter.unusedSimpArgs false
attribute [local go_sem ↓] Go.wp_at_zero Go.wp_at_succ

def tbl : List (Int × Int × Int) := [(192, 65, 768), (193, 65, 769), (194, 65, 770), (195, 65, 771), (196, 65, 776), (197, 65, 778), (199, 67, 807), (200, 69, 768), (201, 69, 769), (202, 69, 770), (203, 69, 776), (204, 73, 768), (205, 73, 769), (206, 73, 770), (207, 73, 776), (209, 78, 771), (210, 79, 768), (211, 79, 769), (212, 79, 770), (213, 79, 771), (214, 79, 776), (217, 85, 768), (218, 85, 769), (219, 85, 770), (220, 85, 776), (221, 89, 769), (224, 97, 768), (225, 97, 769), (226, 97, 770), (227, 97, 771), (228, 97, 776), (229, 97, 778), (231, 99, 807), (232, 101, 768), (233, 101, 769), (234, 101, 770), (235, 101, 776), (236, 105, 768), (237, 105, 769), (238, 105, 770), (239, 105, 776), (241, 110, 771), (242, 111, 768), (243, 111, 769), (244, 111, 770), (245, 111, 771), (246, 111, 776), (249, 117, 768), (250, 117, 769), (251, 117, 770), (252, 117, 776), (253, 121, 769), (255, 121, 776), (8490, 75, 0), (8491, 197, 0)]
def rowC (r : Int × Int × Int) : List Value := [.int .i32 r.1, .int .i32 r.2.1, .int .i32 r.2.2]
def tblC : List Value := tbl.flatMap rowC
theorem tbl_length : tbl.length = 55 := rfl
/-- The slice reads the table. -/
def MapV (w : World) (v : Value) : Prop := ∃ g, v = .slice (some ⟨g, 0, none⟩) 55 55 ∧ w.heap[g]? = some (.cells tblC.toArray 141 (0, 0))
theorem MapV.keep {w w' : World} {v : Value} (h : MapV w v) (k : Keep w w') : MapV w' v := by
  obtain ⟨g, hv, hg⟩ := h
  exact ⟨g, hv, k.heap hg⟩
set_option maxRecDepth 8000 in
set_option maxHeartbeats 1000000 in
theorem mapList_c (w : World) : Calls Try.prog 100 #[] w fun e w' => ∃ v, e = .returned v ∧ MapV w' v ∧ Keep w w' := by
  go_enter Try.func100, Try.ntmps100
  go_upto_region 1 with fail
  refine wp_region_lit ?_
  refine wpList_stepsB 55 _ _ ⟨(Value.slice none 0 0 :: (tbl.map (fun r => Value.agg (rowC r).toArray) ++ [undef])).toArray, []⟩ (by kernel_rfl) ?_
  simp only [List.drop_succ_cons, List.drop_zero]
  refine Great.wpList_buildSliceTo (by rfl) 133 141 55 _ (by rfl) w.heap.size rfl (some 56) (by rfl) Try.underlying133 tblC.toArray (by kernel_rfl) ?_
  go_wp2_with fail
  go_ret
  exact ⟨_, rfl, ⟨_, rfl, heap_alloc_new w _⟩, (Keep.refl w).alloc _⟩
end Go.Proofs.Qxb6500767a
