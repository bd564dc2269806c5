/- A region that draws its order, by an invariant over what has come up; the operations of Camellia's key schedule, each by itself. -/
import Derived.Test.Qxb6500771aGreatCd
import Derived.OrdersHeld
import Derived.Deep.MidRow
namespace Go.Qm
open Go Go.RowKit
/-- How many operations are still to come. -/
def todo (listed : Array Bool) : Nat := (listed.toList.filter (fun b => !b)).length
theorem todo_set {listed : Array Bool} {i : Nat} (hi : i < listed.size) (hf : listed.getD i true = false) : todo (listed.setIfInBounds i true) + 1 = todo listed := by
  have hl : i < listed.toList.length := by simpa using hi
  have hg : listed.toList[i] = false := by
    have : listed.getD i true = listed[i] := by simp [Array.getD, hi]
    rw [this] at hf
    simpa using hf
  have e : listed.toList = listed.toList.take i ++ false :: listed.toList.drop (i + 1) := by
    rw [← hg, ← List.drop_eq_getElem_cons hl, List.take_append_drop]
  unfold todo
  rw [Array.toList_setIfInBounds, List.set_eq_take_append_cons_drop, if_pos hl]
  conv => rhs; rw [e]
  simp [List.filter_append]
  omega
theorem ready_mem {md : Region.Mode} {ops : Array Oper} {listed : Array Bool} {i : Nat} (h : i ∈ Region.ready md ops listed) : i < ops.size ∧ listed.getD i true = false := by
  unfold Region.ready at h
  simp only [List.mem_filter, List.mem_range, Bool.and_eq_true, Bool.not_eq_true'] at h
  exact ⟨h.1, h.2.1⟩
theorem wpAny_inv {P : Program} {md : Region.Mode} {ops : Array Oper} {Q : Exit → Act → World → Prop} (I : Array Bool → Act → World → Prop)
    (hstep : ∀ listed a w, listed.size = ops.size → I listed a w → ∀ i, i ∈ Region.ready md ops listed → wpOp P ops Q i (fun a' w' => I (listed.setIfInBounds i true) a' w') a w)
    (hend : ∀ listed a w, I listed a w → Region.ready md ops listed = [] → Q .normal a w) :
    ∀ (fuel : Nat) (listed : Array Bool) (a : Act) (w : World), listed.size = ops.size → todo listed ≤ fuel → I listed a w → wpAny P md ops Q fuel listed a w
  | 0, listed, a, w, hs, ht, hI => by
    have hr : Region.ready md ops listed = [] := by
      apply List.eq_nil_iff_forall_not_mem.2
      intro i hi
      obtain ⟨h1, h2⟩ := ready_mem hi
      have := todo_set (i := i) (by omega) h2
      omega
    exact ⟨hr, hend listed a w hI hr⟩
  | fuel + 1, listed, a, w, hs, ht, hI =>
    ⟨fun hr => hend listed a w hI hr, fun i hi => wpOp_mono (fun a' w' h' => wpAny_inv I hstep hend fuel _ a' w' (by simpa using hs) (by
      obtain ⟨h1, h2⟩ := ready_mem hi
      have := todo_set (i := i) (by omega) h2
      omega) h') (hstep listed a w hs hI i hi)⟩
theorem wp_region_inv {P : Program} {ops : Array Oper} {Q : Exit → Act → World → Prop} {id : Nat} {a : Act} {w : World} (hm : P.follows .mixedOrders = true) (I : Array Bool → Act → World → Prop)
    (hstep : ∀ listed a w, listed.size = ops.size → I listed a w → ∀ i, i ∈ Region.ready .any ops listed → wpOp P ops Q i (fun a' w' => I (listed.setIfInBounds i true) a' w') a w)
    (hend : ∀ listed a w, I listed a w → Region.ready .any ops listed = [] → Q .normal a w) (h0 : I (Array.replicate ops.size false) a w.drew) : (Code.region id ops true).wp P Q a w :=
  wp_region_any hm (wpAny_inv I hstep hend _ _ _ _ (by simp) (by simp [todo]) h0)
theorem get_put (a : Act) (d n : Nat) (v : Value) : (a.put (some d) v).tmps[n]? = if d = n then (if d < a.tmps.size then some v else none) else a.tmps[n]? := by
  simp only [Act.put, Array.getElem?_setIfInBounds]
theorem size_put (a : Act) (d : Option Nat) (v : Value) : (a.put d v).tmps.size = a.tmps.size := by
  cases d <;> simp [Act.put]
theorem defers_put (a : Act) (d : Option Nat) (v : Value) : (a.put d v).defers = a.defers := by
  cases d <;> rfl
theorem eval_of {a : Act} {n : Nat} {v : Value} (h : a.tmps[n]? = some v) : a.eval (.tmp n) = v := by
  simp [Act.eval, Array.getD_eq_getD_getElem?, h]
theorem wpOp_of {P : Program} {ops : Array Oper} {Q : Exit → Act → World → Prop} {i : Nat} {K : Act → World → Prop} {a : Act} {w : World} (o : Oper) (ho : ops[i]? = some o) (hg : o.guard = none) (h : o.wp P a w K Q) : wpOp P ops Q i K a w := by
  unfold wpOp
  rw [ho]
  have : Region.wanted o (yielded ops a.tmps) = true := by simp [Region.wanted, hg]
  simp only [this, if_true]
  exact Or.inl h
end Go.Qm
namespace Go.Proofs.Qxb6500771aGreat
open Go Go.RowKit Go.Qm
set_option linter.unusedVariables false
set_option linter.unusedSimpArgs false
theorem wp_call2 {o : Oper} {a : Act} {w : World} {K : Act → World → Prop} {Q : Exit → Act → World → Prop} (f : FuncId) (x y : Operand) (ts : Array TypeId) (ho : o.op = .call ⟨.value (.func f), #[x, y], ts⟩) (fn : Func) (hf : Tryz.prog.funcs[f]? = some fn)
    (hn : (fn.name == "runtime.NumGoroutine") = false) (hb : fn.body.isNone = false) (v u : Value) (hx : a.eval x = v) (hy : a.eval y = u)
    (H : Calls Tryz.prog f #[v, u] w fun e w' => ∃ r, e = .returned r ∧ K (a.put o.dst r) w') : o.wp Tryz.prog a w K Q := by
  have e0 : a.eval (.func f) = .func (.func f) #[] #[] := rfl
  have e1 : (#[] ++ Array.map a.eval #[x, y] ++ #[] : Array Value) = #[v, u] := by simp [hx, hy]
  unfold Oper.wp execOp
  simp only [ho]
  simp only [resolve, e0, Deferred.ofValue, invoke, callFunc, Sem.run_bind, Sem.run_pure, Result.andThen_ok, run_program, hf, hn, hb, e1]
  simp only [if_false, Bool.false_eq_true, Sem.run_pure]
  refine H.mono ?_
  rintro e w' ⟨r, rfl, hr⟩
  exact hr
section
variable {o : Oper} {a : Act} {w : World} {K : Act → World → Prop} {Q : Exit → Act → World → Prop}
theorem wp_fa0 (x : Operand) (ho : o.op = .fieldAddr 168 x 0) (g : Nat) (hx : a.eval x = .pointer (some ⟨g, 0, none⟩)) (h : K (a.put o.dst (.pointer (some ⟨g, 0, none⟩))) w) : o.wp Tryz.prog a w K Q := by
  unfold Oper.wp execOp
  simp only [ho, hx]
  simp [go_sem]
  exact h
theorem wp_fa1 (x : Operand) (ho : o.op = .fieldAddr 168 x 1) (g : Nat) (hx : a.eval x = .pointer (some ⟨g, 0, none⟩)) (h : K (a.put o.dst (.pointer (some ⟨g, 1, none⟩))) w) : o.wp Tryz.prog a w K Q := by
  unfold Oper.wp execOp
  simp only [ho, hx]
  simp [go_sem]
  exact h
theorem wp_ld74 (x : Operand) (ho : o.op = .load 29 x) (g k : Nat) (v : Int) (hx : a.eval x = .pointer (some ⟨g, k, none⟩)) (hc : w.cell? ⟨g, k, none⟩ = some (.int .u64 v)) (h : K (a.put o.dst (.int .u64 v)) w) : o.wp Tryz.prog a w K Q := by
  unfold Oper.wp execOp
  simp only [ho, hx]
  simp [go_sem, hc]
  exact h
theorem wp_fl0 (x : Operand) (ho : o.op = .field 168 x 0) (u v : Int) (hx : a.eval x = .agg #[.int .u64 u, .int .u64 v]) (h : K (a.put o.dst (.int .u64 u)) w) : o.wp Tryz.prog a w K Q := by
  have e : Sem.run Tryz.prog (Instr.field 168 (Value.agg #[.int .u64 u, .int .u64 v]) 0) w = .ok (.int .u64 u) w := by
    unfold Instr.field
    simp [go_sem, Tryz.underlying168, part, asAgg]
  unfold Oper.wp execOp
  simp only [ho, hx]
  simp [go_sem, e]
  exact h
theorem wp_fl1 (x : Operand) (ho : o.op = .field 168 x 1) (u v : Int) (hx : a.eval x = .agg #[.int .u64 u, .int .u64 v]) (h : K (a.put o.dst (.int .u64 v)) w) : o.wp Tryz.prog a w K Q := by
  have e : Sem.run Tryz.prog (Instr.field 168 (Value.agg #[.int .u64 u, .int .u64 v]) 1) w = .ok (.int .u64 v) w := by
    unfold Instr.field
    simp [go_sem, Tryz.underlying168, part, asAgg]
  unfold Oper.wp execOp
  simp only [ho, hx]
  simp [go_sem, e]
  exact h
end
end Go.Proofs.Qxb6500771aGreat
