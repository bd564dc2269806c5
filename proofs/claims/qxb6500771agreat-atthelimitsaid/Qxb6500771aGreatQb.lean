/- Regions with calls that keep what stands, and one box that is made and filled. -/
import Derived.Test.Qxb6500771aGreatQa
import Derived.Test.Qxb6500771aGreatArr
namespace Go.Qv
open Go Go.RowKit Go.Qm
set_option linter.unusedVariables false
set_option linter.unusedSimpArgs false
/-- What stands: the answers so far; the box: made (effect kA), filled (effect kS) with the value of effect kC. -/
structure RX (w0 : World) (V : Nat → Value → World → Prop) (T : TypeId) (N kA kS kC : Nat) (vs : Nat → Option Value) (w : World) : Prop where
  kp : Keep w0 w
  vv : ∀ k u, k ≠ kA → k ≠ kS → (k = kC ∨ vs kS = none) → vs k = some u → V k u w
  bx : ∀ u, vs kA = some u → ∃ (p : Nat) (cs : List Value), u = .pointer (some ⟨p, 0, none⟩) ∧ w0.heap.size ≤ p ∧ Arr w p T cs ∧ cs.length = N ∧ ((vs kS).isSome = true → vs kC = some (.agg cs.toArray))
section
variable {w0 w y : World} {V : Nat → Value → World → Prop} {T : TypeId} {N kA kS kC : Nat} {vs : Nat → Option Value}
theorem RX.start : RX w0 V T N kA kS kC (fun _ => none) w0 := ⟨Keep.refl _, fun k u _ _ _ h => (by cases h), fun u h => (by cases h)⟩
theorem RX.call (h : RX w0 V T N kA kS kC vs w) (hV : ∀ k u Z Z', Keep Z Z' → V k u Z → V k u Z') {k : Nat} {u : Value} (h1 : k ≠ kA) (h2 : k ≠ kS) (h3 : k ≠ kC ∨ vs kS = none) (kz : Keep w y) (hu : V k u y) : RX w0 V T N kA kS kC (upv vs k u) y := by
  refine ⟨h.kp.trans kz, fun j x ha hs hc hx => ?_, fun x hx => ?_⟩
  · rw [upv_ne _ _ (Ne.symm h2)] at hc
    by_cases e : j = k
    · subst e
      rw [upv_same] at hx
      rw [← Option.some.inj hx]
      exact hu
    · rw [upv_ne _ _ e] at hx
      exact hV j x _ _ kz (h.vv j x ha hs hc hx)
  · rw [upv_ne _ _ (Ne.symm h1)] at hx
    obtain ⟨p, cs, e, hp, a, hN, hc⟩ := h.bx x hx
    refine ⟨p, cs, e, hp, a.keep kz, hN, fun hs => ?_⟩
    rw [upv_ne _ _ (Ne.symm h2)] at hs
    rcases h3 with h3 | h3
    · rw [upv_ne _ _ (Ne.symm h3)]
      exact hc hs
    · rw [h3] at hs
      cases hs
theorem RX.alloc (h : RX w0 V T N kA kS kC vs w) (hV : ∀ k u Z Z', Keep Z Z' → V k u Z → V k u Z') (hAS : kA ≠ kS) (hS : vs kS = none) (z : List Value) (hz : z.length = N) : RX w0 V T N kA kS kC (upv vs kA (.pointer (some ⟨w.heap.size, 0, none⟩))) (w.alloc (.cells z.toArray T)) := by
  have k := (Keep.refl w).alloc (.cells z.toArray T)
  refine ⟨h.kp.trans k, fun j x ha hs hc hx => ?_, fun x hx => ?_⟩
  · rw [upv_ne _ _ ha] at hx
    exact hV j x _ _ k (h.vv j x ha hs (Or.inr hS) hx)
  · rw [upv_same] at hx
    refine ⟨w.heap.size, z, (Option.some.inj hx).symm, h.kp.size, Arr.new w T z, hz, fun hs => ?_⟩
    rw [upv_ne _ _ (Ne.symm hAS), hS] at hs
    cases hs
theorem RX.store (h : RX w0 V T N kA kS kC vs w) (hS : ∀ u Z p cs ds, Arr Z p T cs → w0.heap.size ≤ p → V kC u Z → V kC u (Z.setRow p ds)) (hAS : kA ≠ kS) (hCS : kC ≠ kS) {p : Nat} {cs ds : List Value} (hp : vs kA = some (.pointer (some ⟨p, 0, none⟩))) (hp0 : w0.heap.size ≤ p) (ha : Arr w p T cs) (hc : vs kC = some (.agg ds.toArray)) (hd : ds.length = N) (u : Value) : RX w0 V T N kA kS kC (upv vs kS u) (w.setRow p ds.toArray) := by
  refine ⟨h.kp.setRow hp0 _, fun j x h1 h2 hj hx => ?_, fun x hx => ?_⟩
  · rw [upv_ne _ _ h2] at hx
    rcases hj with rfl | hj
    · exact hS x _ p cs _ ha hp0 (h.vv j x h1 h2 (Or.inl rfl) hx)
    · rw [upv_same] at hj
      cases hj
  · rw [upv_ne _ _ hAS] at hx
    rw [hp] at hx
    refine ⟨p, ds, (Option.some.inj hx).symm, hp0, ha.row ds, hd, fun _ => ?_⟩
    rw [upv_ne _ _ hCS]
    exact hc
end
end Go.Qv
namespace Go.Proofs.Qxb6500771aGreat
open Go Go.RowKit Go.Qm Go.Qv
set_option linter.unusedVariables false
set_option linter.unusedSimpArgs false
section
variable {o : Oper} {a : Act} {w : World} {K : Act → World → Prop} {Q : Exit → Act → World → Prop}
theorem v_move (x : Operand) (v : Value) (ho : o.op = .move x) (hx : a.eval x = v) (h : K (a.put o.dst v) w) : o.wp Tryz.prog a w K Q := by
  unfold Oper.wp execOp
  simp only [ho, hx]
  exact h
theorem v_asg (x : Operand) (v : Value) (ho : o.op = .assign x) (hx : a.eval x = v) (h : K (a.put o.dst v) w) : o.wp Tryz.prog a w K Q := by
  unfold Oper.wp execOp
  simp only [ho, hx]
  exact h
set_option maxRecDepth 8000 in
theorem v_g43 (x : Operand) (i g k : Nat) (ho : o.op = .fieldAddr 43 x i) (hi : (i = 0 ∧ k = 0) ∨ (i = 1 ∧ k = 1)) (hx : a.eval x = .pointer (some ⟨g, 0, none⟩)) (h : K (a.put o.dst (.pointer (some ⟨g, k, none⟩))) w) : o.wp Tryz.prog a w K Q := by
  unfold Oper.wp execOp
  simp only [ho, hx]
  rcases hi with ⟨rfl, rfl⟩ | ⟨rfl, rfl⟩ <;> (simp [go_sem]; exact h)
theorem v_ld25 (x : Operand) (g k : Nat) (v : Value) (ho : o.op = .load 25 x) (hx : a.eval x = .pointer (some ⟨g, k, none⟩)) (hc : w.cell? ⟨g, k, none⟩ = some v) (h : K (a.put o.dst v) w) : o.wp Tryz.prog a w K Q := by
  unfold Oper.wp execOp
  simp only [ho, hx]
  simp [go_sem, hc]
  exact h
set_option maxRecDepth 8000 in
theorem v_ld43 (x : Operand) (g : Nat) (v0 v1 : Value) (ho : o.op = .load 43 x) (hx : a.eval x = .pointer (some ⟨g, 0, none⟩)) (c0 : w.cell? ⟨g, 0, none⟩ = some v0) (c1 : w.cell? ⟨g, 1, none⟩ = some v1) (h : K (a.put o.dst (.agg #[v0, v1])) w) : o.wp Tryz.prog a w K Q := by
  unfold Oper.wp execOp
  simp only [ho, hx]
  simp [go_sem, c0, c1]
  exact h
set_option maxRecDepth 8000 in
theorem v_ld46 (x : Operand) (g : Nat) (v0 v1 v2 v3 v4 v5 : Value) (ho : o.op = .load 46 x) (hx : a.eval x = .pointer (some ⟨g, 0, none⟩)) (c0 : w.cell? ⟨g, 0, none⟩ = some v0) (c1 : w.cell? ⟨g, 1, none⟩ = some v1) (c2 : w.cell? ⟨g, 2, none⟩ = some v2) (c3 : w.cell? ⟨g, 3, none⟩ = some v3) (c4 : w.cell? ⟨g, 4, none⟩ = some v4) (c5 : w.cell? ⟨g, 5, none⟩ = some v5) (h : K (a.put o.dst (.agg #[v0, v1, v2, v3, v4, v5])) w) : o.wp Tryz.prog a w K Q := by
  unfold Oper.wp execOp
  simp only [ho, hx]
  simp [go_sem, c0, c1, c2, c3, c4, c5]
  exact h
set_option maxRecDepth 8000 in
theorem v_al123 (ho : o.op = .alloc 123) (h : K (a.put o.dst (.pointer (some ⟨w.heap.size, 0, none⟩))) (w.alloc (.cells [.int .i64 0, .slice none 0 0].toArray 123))) : o.wp Tryz.prog a w K Q := by
  unfold Oper.wp execOp
  simp only [ho]
  simp [go_sem]
  exact h
set_option maxRecDepth 8000 in
theorem v_al87 (ho : o.op = .alloc 87) (h : K (a.put o.dst (.pointer (some ⟨w.heap.size, 0, none⟩))) (w.alloc (.cells [.int .i64 0, .int .i64 0, .int .i64 0, .bool false, .int .i64 0, .int .i64 0].toArray 87))) : o.wp Tryz.prog a w K Q := by
  unfold Oper.wp execOp
  simp only [ho]
  simp [go_sem]
  exact h
theorem v_ext (x : Operand) (vs : Array Value) (i : Nat) (v : Value) (ho : o.op = .extract x i) (hx : a.eval x = .tuple vs) (hv : vs[i]? = some v) (h : K (a.put o.dst v) w) : o.wp Tryz.prog a w K Q := by
  unfold Oper.wp execOp
  simp only [ho, hx]
  simp [go_sem, hv]
  exact h
theorem v_call (f : FuncId) (xs : Array Operand) (ts : Array TypeId) (ho : o.op = .call ⟨.value (.func f), xs, ts⟩) (fn : Func) (hf : Tryz.prog.funcs[f]? = some fn)
    (hn : (fn.name == "runtime.NumGoroutine") = false) (hb : fn.body.isNone = false) (vs : Array Value) (hx : xs.map a.eval = vs)
    (H : Calls Tryz.prog f vs w fun e w' => ∃ r, e = .returned r ∧ K (a.put o.dst r) w') : o.wp Tryz.prog a w K Q := by
  have e0 : a.eval (.func f) = .func (.func f) #[] #[] := rfl
  have e1 : (#[] ++ Array.map a.eval xs ++ #[] : Array Value) = vs := by simp [hx]
  unfold Oper.wp execOp
  simp only [ho]
  simp only [resolve, e0, Deferred.ofValue, invoke, callFunc, Sem.run_bind, Sem.run_pure, Result.andThen_ok, run_program, hf, hn, hb, e1]
  simp only [if_false, Bool.false_eq_true, Sem.run_pure]
  refine H.mono ?_
  rintro e w' ⟨r, rfl, hr⟩
  exact hr
end
end Go.Proofs.Qxb6500771aGreat
