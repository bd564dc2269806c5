/- sameHandles' region 7: a call and a variable in any order. -/
import Derived.Test.Qxb6500767aVc
import Derived.Test.Qxb6500767aVb
import Derived.Deep.MidRow
namespace Go.Proofs.Qxb6500767a
open Go Go.RowKit Go.Qm
set_option linter.unusedVariables false
set_option linter.unusedSimpArgs false
section
variable {o : Oper} {a : Act} {w : World} {K : Act → World → Prop} {Q : Exit → Act → World → Prop}
theorem v_nil (x : Operand) (p : Addr) (ho : o.op = .nilCheck x) (hx : a.eval x = .pointer (some p)) (h : K (a.put o.dst (.pointer (some p))) w) : o.wp Try.prog a w K Q := by
  unfold Oper.wp execOp
  simp only [ho, hx]
  simp [go_sem]
  exact h
theorem v_field43 (x : Operand) (g : Nat) (ho : o.op = .fieldAddr 43 x 1) (hx : a.eval x = .pointer (some ⟨g, 0, none⟩)) (h : K (a.put o.dst (.pointer (some ⟨g, 1, none⟩))) w) : o.wp Try.prog a w K Q := by
  have e : (Instr.fieldAt 43 (.pointer (some ⟨g, 0, none⟩)) 1).run Try.prog w = .ok (.pointer (some ⟨g, 1, none⟩)) w := by simp [go_sem]
  unfold Oper.wp execOp
  simp only [ho, hx, Sem.run_bind, Result.andThen_ok, e, Sem.run_pure]
  exact h
theorem v_field91 (x : Operand) (g : Nat) (ho : o.op = .fieldAddr 91 x 0) (hx : a.eval x = .pointer (some ⟨g, 0, none⟩)) (h : K (a.put o.dst (.pointer (some ⟨g, 0, none⟩))) w) : o.wp Try.prog a w K Q := by
  have e : (Instr.fieldAt 91 (.pointer (some ⟨g, 0, none⟩)) 0).run Try.prog w = .ok (.pointer (some ⟨g, 0, none⟩)) w := by simp [go_sem]
  unfold Oper.wp execOp
  simp only [ho, hx, Sem.run_bind, Result.andThen_ok, e, Sem.run_pure]
  exact h
theorem v_load41 (x : Operand) (g k : Nat) (v : Value) (ho : o.op = .load 41 x) (hx : a.eval x = .pointer (some ⟨g, k, none⟩)) (hc : w.cell? ⟨g, k, none⟩ = some v) (h : K (a.put o.dst v) w) : o.wp Try.prog a w K Q := by
  unfold Oper.wp execOp
  simp only [ho, hx]
  simp [go_sem, hc]
  exact h
theorem v_call2 (f : FuncId) (x y : Operand) (ts : Array TypeId) (ho : o.op = .call ⟨.value (.func f), #[x, y], ts⟩) (fn : Func) (hf : Try.prog.funcs[f]? = some fn)
    (hn : (fn.name == "runtime.NumGoroutine") = false) (hb : fn.body.isNone = false) (v u : Value) (hx : a.eval x = v) (hy : a.eval y = u)
    (H : Calls Try.prog f #[v, u] w fun e w' => ∃ r, e = .returned r ∧ K (a.put o.dst r) w') : o.wp Try.prog a w K Q := by
  have e0 : a.eval (.func f) = .func (.func f) #[] #[] := rfl
  have e1 : (#[] ++ Array.map a.eval #[x, y] ++ #[] : Array Value) = #[v, u] := by simp [hx, hy]
  unfold Oper.wp execOp
  simp only [ho]
  simp only [resolve, e0, Deferred.ofValue, invoke, callFunc, Sem.run_bind, Sem.run_pure, Result.andThen_ok, run_program, hf, hn, hb, e1]
  simp only [if_false, Bool.false_eq_true, Sem.run_pure]
  refine H.mono ?_
  rintro e w' ⟨r, rfl, hr⟩
  exact hr
theorem v_alloc48 (ho : o.op = .alloc 48) (h : ∀ c : List Value, c.length = 6 → K (a.put o.dst (.pointer (some ⟨w.heap.size, 0, none⟩))) (w.alloc (.cells c.toArray 48))) : o.wp Try.prog a w K Q := by
  unfold Oper.wp execOp
  simp only [ho]
  simp [go_sem]
  exact h [_, _, _, _, _, _] rfl
end
theorem siz48 : (Try.prog.info? 48).map (·.size) = some 6 := by kernel_rfl
def oH : Array Oper := #[{ dst := some 35, op := Op.move (Operand.tmp 0), type := 24, pos := "law.go:109", after := #[], guard := none }, { dst := some 36, op := Op.nilCheck (Operand.tmp 35), type := 0, pos := "law.go:109", after := #[{ on := 0, ground := Ground.data }], guard := none }, { dst := some 37, op := Op.fieldAddr 43 (Operand.tmp 36) 1, type := 0, pos := "law.go:109", after := #[{ on := 1, ground := Ground.data }], guard := none }, { dst := some 38, op := Op.load 41 (Operand.tmp 37), type := 41, pos := "law.go:109", after := #[{ on := 2, ground := Ground.data }], guard := none }, { dst := some 39, op := Op.fieldAddr 91 (Operand.tmp 6) 0, type := 0, pos := "law.go:109", after := #[], guard := none }, { dst := some 40, op := Op.load 3 (Operand.tmp 39), type := 3, pos := "law.go:109", after := #[{ on := 4, ground := Ground.data }], guard := none }, { dst := some 41, op := Op.call { callee := Callee.value (Operand.func 22), args := #[Operand.tmp 38, Operand.tmp 40], argTypes := #[41, 3] }, type := 48, pos := "law.go:109", after := #[{ on := 3, ground := Ground.data }, { on := 5, ground := Ground.data }], guard := none }, { dst := some 7, op := Op.alloc 48, type := 0, pos := "law.go:109", after := #[], guard := none }, { dst := none, op := Op.store 48 (Operand.tmp 7) (Operand.tmp 41), type := 0, pos := "law.go:109", after := #[{ on := 7, ground := Ground.data }, { on := 6, ground := Ground.data }, { on := 6, ground := Ground.chain }, { on := 0, ground := Ground.phase }, { on := 1, ground := Ground.phase }, { on := 2, ground := Ground.phase }, { on := 3, ground := Ground.phase }, { on := 4, ground := Ground.phase }, { on := 5, ground := Ground.phase }, { on := 6, ground := Ground.phase }, { on := 7, ground := Ground.phase }], guard := none }]
def oHL (gw gf gO : Nat) (n : Int) (VV : List Value) : List (Nat × Value) := [(35, .pointer (some ⟨gw, 0, none⟩)), (36, .pointer (some ⟨gw, 0, none⟩)), (37, .pointer (some ⟨gw, 1, none⟩)), (38, .pointer (some ⟨gf, 0, none⟩)), (39, .pointer (some ⟨gO, 0, none⟩)), (40, .int .i64 n), (41, .agg VV.toArray), (7, undef)]
theorem oH_chk : chk oH 8 = true := by kernel_rfl
theorem oHL_fst (gw gf gO : Nat) (n : Int) (VV : List Value) : (oHL gw gf gO n VV).map Prod.fst = [35, 36, 37, 38, 39, 40, 41, 7] := rfl
set_option maxRecDepth 4000 in
set_option maxHeartbeats 4000000 in
theorem regionH_c {Q : Exit → Act → World → Prop} {a0 : Act} {w : World} (gw gf gO : Nat) (n : Int) (VV : List Value) (hV : VV.length = 6) (h1V : VV.toArray.all (·.oneCell') = true) (h0 : a0.tmps.size = 91)
    (t0 : a0.tmps[0]? = some (.pointer (some ⟨gw, 0, none⟩))) (t6 : a0.tmps[6]? = some (.pointer (some ⟨gO, 0, none⟩))) (c1 : w.cell? ⟨gw, 1, none⟩ = some (.pointer (some ⟨gf, 0, none⟩))) (c0 : w.cell? ⟨gO, 0, none⟩ = some (.int .i64 n))
    (HC : ∀ W, Keep w W → Calls Try.prog 22 #[.pointer (some ⟨gf, 0, none⟩), .int .i64 n] W fun e w' => e = .returned (.agg VV.toArray) ∧ Keep W w')
    (hend : ∀ p w', w.heap.size ≤ p → Arr w' p 48 VV → Keep w w' → Q .normal (lay a0 ((oHL gw gf gO n VV).set 7 (7, .pointer (some ⟨p, 0, none⟩)))) w') :
    (Code.region 7 oH true).wp Try.prog Q a0 w := by
  have hsz : ∀ x ∈ oHL gw gf gO n VV, x.1 < a0.tmps.size := by
    intro x hx
    have hx1 : x.1 ∈ (oHL gw gf gO n VV).map Prod.fst := List.mem_map_of_mem hx
    rw [oHL_fst] at hx1
    rw [h0]
    have : ∀ y ∈ [35, 36, 37, 38, 39, 40, 41, 7], y < 91 := by decide
    exact this _ hx1
  have e0 : ∀ a : Act, (∀ t, t ∉ (oHL gw gf gO n VV).map Prod.fst → a.tmps[t]? = a0.tmps[t]?) → a.eval (.tmp 0) = .pointer (some ⟨gw, 0, none⟩) := fun a hot => veval_of ((hot 0 (by rw [oHL_fst]; decide)).trans t0)
  have e6 : ∀ a : Act, (∀ t, t ∉ (oHL gw gf gO n VV).map Prod.fst → a.tmps[t]? = a0.tmps[t]?) → a.eval (.tmp 6) = .pointer (some ⟨gO, 0, none⟩) := fun a hot => veval_of ((hot 6 (by rw [oHL_fst]; decide)).trans t6)
  refine wp_region_var (by rfl) 8 (oHL gw gf gO n VV) rfl (by decide) oH_chk (by rw [oHL_fst]; decide) hsz 7 7 (by decide) ⟨undef, rfl⟩ (fun p => .pointer (some ⟨p, 0, none⟩)) (fun W => Keep w W) (fun p W => w.heap.size ≤ p ∧ ∃ cs, Arr W p 48 cs ∧ cs.length = 6) (Keep.refl w).drew ?_ ?_ ?_
  · intro i x hx hiq a w' hJ hot hdp
    match i, hx with
    | 0, hx =>
      obtain rfl : (35, (.pointer (some ⟨gw, 0, none⟩) : Value)) = x := Option.some.inj hx
      exact wpOp_of _ rfl rfl (v_move (.tmp 0) _ rfl (e0 a hot) ⟨rfl, hJ, fun _ h => h⟩)
    | 1, hx =>
      obtain rfl : (36, (.pointer (some ⟨gw, 0, none⟩) : Value)) = x := Option.some.inj hx
      exact wpOp_of _ rfl rfl (v_nil (.tmp 35) _ rfl (veval_of (hdp 0 (by decide) (35, (.pointer (some ⟨gw, 0, none⟩) : Value)) rfl (by decide))) ⟨rfl, hJ, fun _ h => h⟩)
    | 2, hx =>
      obtain rfl : (37, (.pointer (some ⟨gw, 1, none⟩) : Value)) = x := Option.some.inj hx
      exact wpOp_of _ rfl rfl (v_field43 (.tmp 36) gw rfl (veval_of (hdp 1 (by decide) (36, (.pointer (some ⟨gw, 0, none⟩) : Value)) rfl (by decide))) ⟨rfl, hJ, fun _ h => h⟩)
    | 3, hx =>
      obtain rfl : (38, (.pointer (some ⟨gf, 0, none⟩) : Value)) = x := Option.some.inj hx
      exact wpOp_of _ rfl rfl (v_load41 (.tmp 37) gw 1 _ rfl (veval_of (hdp 2 (by decide) (37, (.pointer (some ⟨gw, 1, none⟩) : Value)) rfl (by decide))) (hJ.cell c1) ⟨rfl, hJ, fun _ h => h⟩)
    | 4, hx =>
      obtain rfl : (39, (.pointer (some ⟨gO, 0, none⟩) : Value)) = x := Option.some.inj hx
      exact wpOp_of _ rfl rfl (v_field91 (.tmp 6) gO rfl (e6 a hot) ⟨rfl, hJ, fun _ h => h⟩)
    | 5, hx =>
      obtain rfl : (40, (.int .i64 n : Value)) = x := Option.some.inj hx
      exact wpOp_of _ rfl rfl (v_load3 (.tmp 39) gO 0 _ rfl (veval_of (hdp 4 (by decide) (39, (.pointer (some ⟨gO, 0, none⟩) : Value)) rfl (by decide))) (hJ.cell c0) ⟨rfl, hJ, fun _ h => h⟩)
    | 6, hx =>
      obtain rfl : (41, (.agg VV.toArray : Value)) = x := Option.some.inj hx
      refine wpOp_of _ rfl rfl (v_call2 22 (.tmp 38) (.tmp 40) _ rfl _ Try.func22 (by kernel_rfl) (by kernel_rfl) _ _ (veval_of (hdp 3 (by decide) (38, (.pointer (some ⟨gf, 0, none⟩) : Value)) rfl (by decide))) (veval_of (hdp 5 (by decide) (40, (.int .i64 n : Value)) rfl (by decide))) ((HC _ hJ).mono ?_))
      rintro x w2 ⟨rfl, hk⟩
      refine ⟨_, rfl, rfl, hJ.trans hk, ?_⟩
      rintro p ⟨g1, cs, g2, g3⟩
      exact ⟨g1, cs, g2.keep hk, g3⟩
    | 7, hx => exact absurd rfl hiq
    | i + 8, hx => simp [oHL] at hx
  · intro a w' hJ hot
    refine wpOp_of _ rfl rfl (v_alloc48 rfl fun c hc => ?_)
    exact ⟨w'.heap.size, rfl, hJ.alloc _, hJ.size, c, Arr.new w' 48 c, hc⟩
  · rintro w1 p hk ⟨hp, cs, hA, hcs⟩
    have hm : ((oHL gw gf gO n VV).set 7 (7, .pointer (some ⟨p, 0, none⟩))).map Prod.fst = [35, 36, 37, 38, 39, 40, 41, 7] := rfl
    have hs2 : ∀ x ∈ (oHL gw gf gO n VV).set 7 (7, .pointer (some ⟨p, 0, none⟩)), x.1 < a0.tmps.size := by
      intro x hx
      have hx1 : x.1 ∈ ((oHL gw gf gO n VV).set 7 (7, .pointer (some ⟨p, 0, none⟩))).map Prod.fst := List.mem_map_of_mem hx
      rw [hm] at hx1
      rw [h0]
      have : ∀ y ∈ [35, 36, 37, 38, 39, 40, 41, 7], y < 91 := by decide
      exact this _ hx1
    have g7 := lay_at _ a0 (by rw [hm]; decide) hs2 (7, .pointer (some ⟨p, 0, none⟩)) (by simp [oHL])
    have g41 := lay_at _ a0 (by rw [hm]; decide) hs2 (41, .agg VV.toArray) (by simp [oHL])
    generalize hA0 : lay a0 ((oHL gw gf gO n VV).set 7 (7, .pointer (some ⟨p, 0, none⟩))) = A at *
    show wpOps Try.prog oH Q [8] A w1
    rw [wpOps_cons]
    refine wpOp_of _ rfl rfl (wp_store_row 48 (.tmp 7) (.tmp 41) rfl p VV.toArray (veval_of g7) (veval_of g41) 48 cs.toArray hA (by rw [List.size_toArray, hV]; exact siz48) (by simp [hcs, hV]) h1V ?_)
    have := hend p (w1.setRow p VV.toArray) hp (hA.row VV) (hk.setRow hp _)
    rw [hA0] at this
    exact this
end Go.Proofs.Qxb6500767a
