/- cipherm: DES's S boxes. -/
import Derived.Test.Qxb6500769aTab
import Derived.Test.Qxb6500769aDf
import Derived.Deep.CutRange
namespace Go.Qm
open Go Go.RowKit
def stepB (P : Program) (o : Oper) (a : Act) : Option Act :=
  match o.guard, o.op with
  | none, .build t parts => (P.built t (parts.map fun (i, x) => (i, a.eval x)).toList).map fun c => a.put o.dst (.agg c)
  | _, _ => none
def stepsB (P : Program) : List Oper → Act → Option Act
  | [], a => some a
  | o :: l, a => (stepB P o a).bind (stepsB P l)
theorem wpList_stepsB {P : Program} {ops : Array Oper} {Q : Exit → Act → World → Prop} {w : World} : ∀ (n : Nat) (l : List Oper) (a a' : Act), stepsB P (l.take n) a = some a' → wpList P ops Q (l.drop n) a' w → wpList P ops Q l a w
  | 0, l, a, a', h, hk => by
    simp [stepsB] at h
    subst h
    exact hk
  | n + 1, [], a, a', h, hk => by
    simp [stepsB] at h
    subst h
    exact hk
  | n + 1, o :: l, a, a', h, hk => by
    simp only [List.take_succ_cons, stepsB] at h
    simp only [List.drop_succ_cons] at hk
    cases hs : stepB P o a with
    | none => rw [hs] at h; simp at h
    | some a1 =>
      rw [hs] at h
      simp only [Option.bind_some] at h
      have ih := wpList_stepsB (ops := ops) (Q := Q) (w := w) n l a1 a' h hk
      unfold stepB at hs
      split at hs
      · rename_i t parts hg ho
        cases hb : P.built t (parts.map fun (i, x) => (i, a.eval x)).toList with
        | none => rw [hb] at hs; simp at hs
        | some c =>
          rw [hb] at hs
          simp only [Option.map_some, Option.some.injEq] at hs
          refine wpList_build hg t parts ho (by rw [hb]; rfl) ?_
          rw [hb]
          simp only [Option.getD_some]
          rw [hs]
          exact ih
      · simp at hs
end Go.Qm
namespace Go.Proofs.Qxb6500769a
open Go.RowKit Go.Qm
set_option linter.unusedVariables false
set_option linter.unusedSimpArgs false
attribute [local go_sem ↓] Go.wp_at_zero Go.wp_at_succ
theorem cb_ones (l : List UInt8) : ((l.map cb).toArray).all (·.oneCell') = true := by simp [cb, Value.oneCell']
theorem z109 : (Try.prog.info? 109).map (·.zero) = some (some (.agg (List.replicate 512 (Value.int .u8 0)).toArray)) := by kernel_rfl
theorem s109 : (Try.prog.info? 109).map (·.size) = some 512 := by kernel_rfl
def sT1 : List UInt8 := [14, 4, 13, 1, 2, 15, 11, 8, 3, 10, 6, 12, 5, 9, 0, 7, 0, 15, 7, 4, 14, 2, 13, 1, 10, 6, 12, 11, 9, 5, 3, 8, 4, 1, 14, 8, 13, 6, 2, 11, 15, 12, 9, 7, 3, 10, 5, 0, 15, 12, 8, 2, 4, 9, 1, 7, 5, 11, 3, 14, 10, 0, 6, 13]
def sT2 : List UInt8 := [15, 1, 8, 14, 6, 11, 3, 4, 9, 7, 2, 13, 12, 0, 5, 10, 3, 13, 4, 7, 15, 2, 8, 14, 12, 0, 1, 10, 6, 9, 11, 5, 0, 14, 7, 11, 10, 4, 13, 1, 5, 8, 12, 6, 9, 3, 2, 15, 13, 8, 10, 1, 3, 15, 4, 2, 11, 6, 7, 12, 0, 5, 14, 9]
def sT3 : List UInt8 := [10, 0, 9, 14, 6, 3, 15, 5, 1, 13, 12, 7, 11, 4, 2, 8, 13, 7, 0, 9, 3, 4, 6, 10, 2, 8, 5, 14, 12, 11, 15, 1, 13, 6, 4, 9, 8, 15, 3, 0, 11, 1, 2, 12, 5, 10, 14, 7, 1, 10, 13, 0, 6, 9, 8, 7, 4, 15, 14, 3, 11, 5, 2, 12]
def sT4 : List UInt8 := [7, 13, 14, 3, 0, 6, 9, 10, 1, 2, 8, 5, 11, 12, 4, 15, 13, 8, 11, 5, 6, 15, 0, 3, 4, 7, 2, 12, 1, 10, 14, 9, 10, 6, 9, 0, 12, 11, 7, 13, 15, 1, 3, 14, 5, 2, 8, 4, 3, 15, 0, 6, 10, 1, 13, 8, 9, 4, 5, 11, 12, 7, 2, 14]
def sT5 : List UInt8 := [2, 12, 4, 1, 7, 10, 11, 6, 8, 5, 3, 15, 13, 0, 14, 9, 14, 11, 2, 12, 4, 7, 13, 1, 5, 0, 15, 10, 3, 9, 8, 6, 4, 2, 1, 11, 10, 13, 7, 8, 15, 9, 12, 5, 6, 3, 0, 14, 11, 8, 12, 7, 1, 14, 2, 13, 6, 15, 0, 9, 10, 4, 5, 3]
def sT6 : List UInt8 := [12, 1, 10, 15, 9, 2, 6, 8, 0, 13, 3, 4, 14, 7, 5, 11, 10, 15, 4, 2, 7, 12, 9, 5, 6, 1, 13, 14, 0, 11, 3, 8, 9, 14, 15, 5, 2, 8, 12, 3, 7, 0, 4, 10, 1, 13, 11, 6, 4, 3, 2, 12, 9, 5, 15, 10, 11, 14, 1, 7, 6, 0, 8, 13]
def sT7 : List UInt8 := [4, 11, 2, 14, 15, 0, 8, 13, 3, 12, 9, 7, 5, 10, 6, 1, 13, 0, 11, 7, 4, 9, 1, 10, 14, 3, 5, 12, 2, 15, 8, 6, 1, 4, 11, 13, 12, 3, 7, 14, 10, 15, 6, 8, 0, 5, 9, 2, 6, 11, 13, 8, 1, 4, 10, 7, 9, 5, 0, 15, 14, 2, 3, 12]
def sT8 : List UInt8 := [13, 2, 8, 4, 6, 15, 11, 1, 10, 9, 3, 14, 5, 0, 12, 7, 1, 15, 13, 8, 10, 3, 7, 4, 12, 5, 6, 11, 0, 14, 9, 2, 7, 11, 4, 1, 9, 12, 14, 2, 0, 6, 10, 13, 15, 3, 5, 8, 2, 1, 14, 7, 4, 10, 8, 13, 15, 12, 9, 0, 3, 5, 6, 11]
def sT : List UInt8 := sT1 ++ sT2 ++ sT3 ++ sT4 ++ sT5 ++ sT6 ++ sT7 ++ sT8
theorem sT_length : sT.length = 512 := by kernel_rfl
theorem z109e : ∃ zs : List Value, zs.length = 512 ∧ (Try.prog.info? 109).map (·.zero) = some (some (.agg zs.toArray)) := ⟨_, List.length_replicate, z109⟩
set_option maxRecDepth 8000 in
set_option maxHeartbeats 1000000 in
theorem tableS_c (w : World) : Calls Try.prog 99 #[] w fun e w' => e = .returned (.agg (sT.map cb).toArray) ∧ Keep w w' := by
  obtain ⟨zs, hzs, hz⟩ := z109e
  have hs : (sT.map cb).length = 512 := by rw [List.length_map, sT_length]
  go_enter Try.func99, Try.ntmps99
  go_upto_region 1 with (refine wpList_alloc_z (by rfl) 109 (by rfl) zs hz ?_)
  refine wp_region_lit ?_
  refine wpList_stepsB 9 _ _ ⟨#[.pointer (some ⟨w.heap.size, 0, none⟩), .agg (sT1.map cb).toArray, .agg (sT2.map cb).toArray, .agg (sT3.map cb).toArray, .agg (sT4.map cb).toArray, .agg (sT5.map cb).toArray, .agg (sT6.map cb).toArray, .agg (sT7.map cb).toArray, .agg (sT8.map cb).toArray, .agg (sT.map cb).toArray], []⟩ (by kernel_rfl) ?_
  simp only [List.drop_succ_cons, List.drop_zero]
  refine wpList_store_row (by rfl) 109 (.tmp 0) (.tmp 9) (by rfl) w.heap.size (sT.map cb).toArray (by rfl) (by rfl) 109 _ (Arr.new w 109 _) (by rw [List.size_toArray, hs]; exact s109) (by simp [hs, hzs]) (cb_ones _) ?_
  go_wp2_with fail
  refine bodyPost_ret (v := .agg (sT.map cb).toArray) ?_ rfl ⟨rfl, ((Keep.refl w).alloc _).setRow (Nat.le_refl _) _⟩
  exact results_cell_row (p := 0) (ty := 109) rfl _ _ w.heap.size 109 (sT.map cb).toArray (0, 0) _ rfl ((Arr.new w 109 _).row _) Try.underlying109 rfl (by rw [List.size_toArray, hs]; exact s109)
end Go.Proofs.Qxb6500769a
