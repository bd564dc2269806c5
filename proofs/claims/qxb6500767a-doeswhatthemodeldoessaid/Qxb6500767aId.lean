/- Two equal arrays of views. -/
import Derived.Test.Qxb6500767aIa
import Derived.ChangeKeysEq
import Derived.Laws.StructEq
namespace Go.Proofs.Qxb6500767a
open Go.RowKit Go.Qm
set_option linter.unusedVariables false
set_option linter.unusedSimpArgs false
theorem eq_view (d : Nat) (a b : Bool) (n f o : Int) (c : ByteArray) (w : World) : (Op.equalIn (d + 2) 48 (.agg #[.bool a, .int .i64 n, .int .i64 f, .bool b, .int .i64 o, .string c]) (.agg #[.bool a, .int .i64 n, .int .i64 f, .bool b, .int .i64 o, .string c])).run Try.prog w = .ok true w := by
  have := Try.underlying48
  have := Try.underlying3
  have := Try.underlying4
  have := Try.underlying9
  go_simp
theorem vw_slice {V : List Vw} {j : Nat} (hj : j < V.length) : ((V.flatMap vwC).drop (j * 6)).take 6 = vwC V[j] := by
  apply List.ext_getElem?
  intro i
  by_cases hi : i < 6
  · rw [List.getElem?_take_of_lt hi, List.getElem?_drop]
    exact flat_get vwC 6 vwC_length V j i hj hi
  · rw [List.getElem?_eq_none (by rw [List.length_take]; omega), List.getElem?_eq_none (by rw [vwC_length]; omega)]
theorem part_view {V : List Vw} {j : Nat} (hj : j < V.length) (w : World) : (part 48 (V.flatMap vwC).toArray (j * 6)).run Try.prog w = .ok (.agg (vwC V[j]).toArray) w := by
  have h1 := Try.underlying48
  unfold part
  go_simp
  exact vw_slice hj
theorem cel48 : Try.prog.cellsOf 48 = 6 := by kernel_rfl
theorem eq_items {V : List Vw} (w : World) (d : Nat) : ∀ (is : List Nat), (∀ i ∈ is, i < V.length) → (Op.eqItems (d + 2) 48 6 (V.flatMap vwC).toArray (V.flatMap vwC).toArray is).run Try.prog w = .ok true w
  | [], _ => by simp [Op.eqItems]
  | i :: is, h => by
    have hi := h i (by simp)
    have ev := eq_view d V[i].opn V[i].dir (V[i].node : Nat) V[i].flags (V[i].off : Nat) ⟨V[i].cur.toArray⟩ w
    have ev' : (Op.equalIn (d + 2) 48 (.agg (vwC V[i]).toArray) (.agg (vwC V[i]).toArray)).run Try.prog w = .ok true w := ev
    simp only [Op.eqItems, Sem.run_bind, part_view hi, ev', Result.andThen_ok, Bool.not_true, Bool.false_eq_true, if_false]
    exact eq_items w d is (fun j hj => h j (List.mem_cons_of_mem _ hj))
theorem inf48 : ∃ i, Try.prog.info? 48 = some i := by
  cases e : Try.prog.info? 48 with
  | none => have := s48; rw [e] at this; cases this
  | some i => exact ⟨i, rfl⟩
theorem neq_views {V : List Vw} (hV : V.length = 32) (w : World) : (binOp .neq 49 (.agg (V.flatMap vwC).toArray) (.agg (V.flatMap vwC).toArray)).run Try.prog w = .ok (.bool false) w := by
  obtain ⟨i, hi⟩ := inf48
  rw [run_neq_struct, show (10000 : Nat) = 9999 + 1 from rfl, run_equalIn_array w 9999 _ _ Try.underlying49 hi, cel48, show (9999 : Nat) = 9997 + 2 from rfl, eq_items w 9997 _ (fun j hj => by rw [hV]; simpa using hj)]
  rfl
theorem guard49 (op : BinOp) (x y : Operand) (xs ys : Array Value) (w : World) : (eqGuard op 49 x y (.agg xs) (.agg ys)).run Try.prog w = .ok () w := run_eqGuard_agg w op 49 x y xs ys (by kernel_rfl)
end Go.Proofs.Qxb6500767a
