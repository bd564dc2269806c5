/- Two regions that draw their order and load the cell that they write: store's and branch's. -/
import Derived.Test.Qxb6500772aVc
import Derived.Test.Qxb6500772aProg
namespace Go.Qm
open Go Go.RowKit
theorem veval_of {a : Act} {n : Nat} {v : Value} (h : a.tmps[n]? = some v) : a.eval (.tmp n) = v := by
  simp [Act.eval, Array.getD_eq_getD_getElem?, h]
theorem wpOp_of {P : Program} {ops : Array Oper} {Q : Exit → Act → World → Prop} {i : Nat} {K : Act → World → Prop} {a : Act} {w : World} (o : Oper) (ho : ops[i]? = some o) (hg : o.guard = none) (h : o.wp P a w K Q) : wpOp P ops Q i K a w := by
  unfold wpOp
  rw [ho]
  have : Region.wanted o (yielded ops a.tmps) = true := by simp [Region.wanted, hg]
  simp only [this, if_true]
  exact Or.inl h
end Go.Qm
namespace Go.Proofs.Qxb6500772a
open Go Go.RowKit Go.Qm
set_option linter.unusedVariables false
set_option linter.unusedSimpArgs false
section
variable {o : Oper} {a : Act} {w : World} {K : Act → World → Prop} {Q : Exit → Act → World → Prop}
theorem v_move (x : Operand) (v : Value) (ho : o.op = .move x) (hx : a.eval x = v) (h : K (a.put o.dst v) w) : o.wp Try.prog a w K Q := by
  unfold Oper.wp execOp
  simp only [ho, hx]
  exact h
theorem v_nil (x : Operand) (p : Addr) (ho : o.op = .nilCheck x) (hx : a.eval x = .pointer (some p)) (h : K (a.put o.dst (.pointer (some p))) w) : o.wp Try.prog a w K Q := by
  unfold Oper.wp execOp
  simp only [ho, hx]
  simp [go_sem]
  exact h
theorem v_f48 (x : Operand) (g o' : Nat) (ho : o.op = .fieldAddr 48 x 0) (hx : a.eval x = .pointer (some ⟨g, o', none⟩)) (h : K (a.put o.dst (.pointer (some ⟨g, o', none⟩))) w) : o.wp Try.prog a w K Q := by
  unfold Oper.wp execOp
  simp only [ho, hx]
  simp [go_sem]
  exact h
theorem v_f109 (x : Operand) (g : Nat) (ho : o.op = .fieldAddr 109 x 1) (hx : a.eval x = .pointer (some ⟨g, 0, none⟩)) (h : K (a.put o.dst (.pointer (some ⟨g, 1, none⟩))) w) : o.wp Try.prog a w K Q := by
  unfold Oper.wp execOp
  simp only [ho, hx]
  simp [go_sem]
  exact h
theorem v_load3 (x : Operand) (g k : Nat) (v : Value) (ho : o.op = .load 3 x) (hx : a.eval x = .pointer (some ⟨g, k, none⟩)) (hc : w.cell? ⟨g, k, none⟩ = some v) (h : K (a.put o.dst v) w) : o.wp Try.prog a w K Q := by
  unfold Oper.wp execOp
  simp only [ho, hx]
  simp [go_sem, hc]
  exact h
theorem v_load45 (x : Operand) (g k : Nat) (v : Value) (ho : o.op = .load 45 x) (hx : a.eval x = .pointer (some ⟨g, k, none⟩)) (hc : w.cell? ⟨g, k, none⟩ = some v) (h : K (a.put o.dst v) w) : o.wp Try.prog a w K Q := by
  unfold Oper.wp execOp
  simp only [ho, hx]
  simp [go_sem, hc]
  exact h
theorem v_load46 (x : Operand) (g k : Nat) (v : Value) (ho : o.op = .load 46 x) (hx : a.eval x = .pointer (some ⟨g, k, none⟩)) (hc : w.cell? ⟨g, k, none⟩ = some v) (h : K (a.put o.dst v) w) : o.wp Try.prog a w K Q := by
  unfold Oper.wp execOp
  simp only [ho, hx]
  simp [go_sem, hc]
  exact h
theorem v_load96 (x : Operand) (g k : Nat) (v : Value) (ho : o.op = .load 96 x) (hx : a.eval x = .pointer (some ⟨g, k, none⟩)) (hc : w.cell? ⟨g, k, none⟩ = some v) (h : K (a.put o.dst v) w) : o.wp Try.prog a w K Q := by
  unfold Oper.wp execOp
  simp only [ho, hx]
  simp [go_sem, hc]
  exact h
theorem v_addi (x y : Operand) (m n r : Int) (ho : o.op = .binOp .add 3 x y 3) (hx : a.eval x = .int .i64 m) (hy : a.eval y = .int .i64 n) (hr : IntKind.i64.wrap (m + n) = r) (h : K (a.put o.dst (.int .i64 r)) w) : o.wp Try.prog a w K Q := by
  unfold Oper.wp execOp
  simp only [ho, hx, hy]
  simp [go_sem, eqGuard, hr]
  exact h
theorem v_index45 (x y : Operand) (g o' m c k : Nat) (ho : o.op = .indexAddr 45 x y) (hx : a.eval x = .slice (some ⟨g, o', none⟩) m c) (hy : a.eval y = .int .i64 (k : Nat)) (hk : k < m) (h : K (a.put o.dst (.pointer (some ⟨g, o' + k, none⟩))) w) : o.wp Try.prog a w K Q := by
  have h1 : (k : Int) < m := by omega
  have h2 : (0 : Int) ≤ k := by omega
  unfold Oper.wp execOp
  simp only [ho, hx, hy]
  simp [go_sem, h1, h2]
  exact h
theorem v_index95 (x y : Operand) (g o' m c k : Nat) (ho : o.op = .indexAddr 95 x y) (hx : a.eval x = .slice (some ⟨g, o', none⟩) m c) (hy : a.eval y = .int .i64 (k : Nat)) (hk : k < m) (h : K (a.put o.dst (.pointer (some ⟨g, o' + k, none⟩))) w) : o.wp Try.prog a w K Q := by
  have h1 : (k : Int) < m := by omega
  have h2 : (0 : Int) ≤ k := by omega
  unfold Oper.wp execOp
  simp only [ho, hx, hy]
  simp [go_sem, h1, h2]
  exact h
theorem v_index96 (x y : Operand) (g o' m c k : Nat) (ho : o.op = .indexAddr 96 x y) (hx : a.eval x = .slice (some ⟨g, o', none⟩) m c) (hy : a.eval y = .int .i64 (k : Nat)) (hk : k < m) (h : K (a.put o.dst (.pointer (some ⟨g, o' + k, none⟩))) w) : o.wp Try.prog a w K Q := by
  have h1 : (k : Int) < m := by omega
  have h2 : (0 : Int) ≤ k := by omega
  unfold Oper.wp execOp
  simp only [ho, hx, hy]
  simp [go_sem, h1, h2]
  exact h
theorem v_call (f : FuncId) (xs : Array Operand) (ts : Array TypeId) (ho : o.op = .call ⟨.value (.func f), xs, ts⟩) (fn : Func) (hf : Try.prog.funcs[f]? = some fn)
    (hn : (fn.name == "runtime.NumGoroutine") = false) (hb : fn.body.isNone = false) (vs : Array Value) (hx : xs.map a.eval = vs)
    (H : Calls Try.prog f vs w fun e w' => ∃ r, e = .returned r ∧ K (a.put o.dst r) w') : o.wp Try.prog a w K Q := by
  have e0 : a.eval (.func f) = .func (.func f) #[] #[] := rfl
  have e1 : (#[] ++ Array.map a.eval xs ++ #[] : Array Value) = vs := by simp [hx]
  unfold Oper.wp execOp
  simp only [ho]
  simp only [resolve, e0, Deferred.ofValue, invoke, callFunc, Sem.run_bind, Sem.run_pure, Result.andThen_ok, run_program, hf, hn, hb, e1]
  simp only [if_false, Bool.false_eq_true, Sem.run_pure]
  refine H.mono ?_
  rintro e w' ⟨r, rfl, hr⟩
  exact hr
theorem v_store96 (x y : Operand) (g k : Nat) (v u : Value) (ha : ∃ b n c, v = .slice b n c) (ho : o.op = .store 96 x y) (hd : o.dst = none) (hx : a.eval x = .pointer (some ⟨g, k, none⟩)) (hy : a.eval y = v) (hc : w.cell? ⟨g, k, none⟩ = some u) (hz : w.frozen? ⟨g, k, none⟩ = false) (h : K a (w.setCell ⟨g, k, none⟩ v)) : o.wp Try.prog a w K Q := by
  obtain ⟨b, n, c, rfl⟩ := ha
  unfold Oper.wp execOp
  simp only [ho, hx, hy]
  simp [go_sem, hc, hz, hd, Act.put]
  exact h
end
def st7 : Array Oper := #[{ dst := some 39, op := Op.move (Operand.tmp 2), type := 91, pos := "exec.go:209", after := #[], guard := none }, { dst := some 40, op := Op.nilCheck (Operand.tmp 39), type := 0, pos := "exec.go:209", after := #[{ on := 0, ground := Ground.data }], guard := none }, { dst := some 41, op := Op.fieldAddr 48 (Operand.tmp 40) 0, type := 0, pos := "exec.go:209", after := #[{ on := 1, ground := Ground.data }], guard := none }, { dst := some 42, op := Op.load 45 (Operand.tmp 41), type := 45, pos := "exec.go:209", after := #[{ on := 2, ground := Ground.data }], guard := none }, { dst := some 43, op := Op.fieldAddr 109 (Operand.tmp 4) 1, type := 0, pos := "exec.go:209", after := #[], guard := none }, { dst := some 44, op := Op.load 3 (Operand.tmp 43), type := 3, pos := "exec.go:209", after := #[{ on := 4, ground := Ground.data }], guard := none }, { dst := some 45, op := Op.move (Operand.tmp 9), type := 3, pos := "exec.go:209", after := #[], guard := none }, { dst := some 46, op := Op.binOp BinOp.add 3 (Operand.tmp 44) (Operand.tmp 45) 3, type := 3, pos := "exec.go:209", after := #[{ on := 5, ground := Ground.data }, { on := 6, ground := Ground.data }], guard := none }, { dst := some 47, op := Op.move (Operand.tmp 0), type := 85, pos := "exec.go:209", after := #[], guard := none }, { dst := some 48, op := Op.move (Operand.tmp 7), type := 95, pos := "exec.go:209", after := #[], guard := none }, { dst := some 49, op := Op.move (Operand.tmp 9), type := 3, pos := "exec.go:209", after := #[], guard := none }, { dst := some 50, op := Op.indexAddr 95 (Operand.tmp 48) (Operand.tmp 49), type := 0, pos := "exec.go:209", after := #[{ on := 9, ground := Ground.data }, { on := 10, ground := Ground.data }], guard := none }, { dst := some 51, op := Op.load 46 (Operand.tmp 50), type := 46, pos := "exec.go:209", after := #[{ on := 11, ground := Ground.data }], guard := none }, { dst := some 52, op := Op.move (Operand.tmp 6), type := 45, pos := "exec.go:209", after := #[], guard := none }, { dst := some 53, op := Op.indexAddr 45 (Operand.tmp 52) (Operand.const (Value.int IntKind.i64 1)), type := 0, pos := "exec.go:209", after := #[{ on := 13, ground := Ground.data }], guard := none }, { dst := some 54, op := Op.load 96 (Operand.tmp 53), type := 96, pos := "exec.go:209", after := #[{ on := 14, ground := Ground.data }], guard := none }, { dst := some 55, op := Op.move (Operand.tmp 2), type := 91, pos := "exec.go:209", after := #[], guard := none }, { dst := some 56, op := Op.nilCheck (Operand.tmp 55), type := 0, pos := "exec.go:209", after := #[{ on := 16, ground := Ground.data }], guard := none }, { dst := some 57, op := Op.fieldAddr 48 (Operand.tmp 56) 0, type := 0, pos := "exec.go:209", after := #[{ on := 17, ground := Ground.data }], guard := none }, { dst := some 58, op := Op.load 45 (Operand.tmp 57), type := 45, pos := "exec.go:209", after := #[{ on := 18, ground := Ground.data }], guard := none }, { dst := some 59, op := Op.fieldAddr 109 (Operand.tmp 4) 1, type := 0, pos := "exec.go:209", after := #[], guard := none }, { dst := some 60, op := Op.load 3 (Operand.tmp 59), type := 3, pos := "exec.go:209", after := #[{ on := 20, ground := Ground.data }], guard := none }, { dst := some 61, op := Op.move (Operand.tmp 9), type := 3, pos := "exec.go:209", after := #[], guard := none }, { dst := some 62, op := Op.binOp BinOp.add 3 (Operand.tmp 60) (Operand.tmp 61) 3, type := 3, pos := "exec.go:209", after := #[{ on := 21, ground := Ground.data }, { on := 22, ground := Ground.data }], guard := none }, { dst := some 63, op := Op.indexAddr 45 (Operand.tmp 58) (Operand.tmp 62), type := 0, pos := "exec.go:209", after := #[{ on := 19, ground := Ground.data }, { on := 23, ground := Ground.data }], guard := none }, { dst := some 64, op := Op.load 96 (Operand.tmp 63), type := 96, pos := "exec.go:209", after := #[{ on := 24, ground := Ground.data }], guard := none }, { dst := some 65, op := Op.call { callee := Callee.value (Operand.func 77), args := #[Operand.tmp 47, Operand.tmp 51, Operand.tmp 54, Operand.tmp 64], argTypes := #[85, 46, 96, 96] }, type := 96, pos := "exec.go:209", after := #[{ on := 8, ground := Ground.data }, { on := 12, ground := Ground.data }, { on := 15, ground := Ground.data }, { on := 25, ground := Ground.data }], guard := none }, { dst := some 66, op := Op.indexAddr 45 (Operand.tmp 42) (Operand.tmp 46), type := 0, pos := "exec.go:209", after := #[{ on := 3, ground := Ground.data }, { on := 7, ground := Ground.data }, { on := 0, ground := Ground.phase }, { on := 1, ground := Ground.phase }, { on := 2, ground := Ground.phase }, { on := 3, ground := Ground.phase }, { on := 4, ground := Ground.phase }, { on := 5, ground := Ground.phase }, { on := 6, ground := Ground.phase }, { on := 7, ground := Ground.phase }, { on := 8, ground := Ground.phase }, { on := 9, ground := Ground.phase }, { on := 10, ground := Ground.phase }, { on := 11, ground := Ground.phase }, { on := 12, ground := Ground.phase }, { on := 13, ground := Ground.phase }, { on := 14, ground := Ground.phase }, { on := 15, ground := Ground.phase }, { on := 16, ground := Ground.phase }, { on := 17, ground := Ground.phase }, { on := 18, ground := Ground.phase }, { on := 19, ground := Ground.phase }, { on := 20, ground := Ground.phase }, { on := 21, ground := Ground.phase }, { on := 22, ground := Ground.phase }, { on := 23, ground := Ground.phase }, { on := 24, ground := Ground.phase }, { on := 25, ground := Ground.phase }, { on := 26, ground := Ground.phase }], guard := none }, { dst := none, op := Op.store 96 (Operand.tmp 66) (Operand.tmp 65), type := 0, pos := "exec.go:209", after := #[{ on := 27, ground := Ground.data }, { on := 26, ground := Ground.data }, { on := 26, ground := Ground.chain }, { on := 0, ground := Ground.phase }, { on := 1, ground := Ground.phase }, { on := 2, ground := Ground.phase }, { on := 3, ground := Ground.phase }, { on := 4, ground := Ground.phase }, { on := 5, ground := Ground.phase }, { on := 6, ground := Ground.phase }, { on := 7, ground := Ground.phase }, { on := 8, ground := Ground.phase }, { on := 9, ground := Ground.phase }, { on := 10, ground := Ground.phase }, { on := 11, ground := Ground.phase }, { on := 12, ground := Ground.phase }, { on := 13, ground := Ground.phase }, { on := 14, ground := Ground.phase }, { on := 15, ground := Ground.phase }, { on := 16, ground := Ground.phase }, { on := 17, ground := Ground.phase }, { on := 18, ground := Ground.phase }, { on := 19, ground := Ground.phase }, { on := 20, ground := Ground.phase }, { on := 21, ground := Ground.phase }, { on := 22, ground := Ground.phase }, { on := 23, ground := Ground.phase }, { on := 24, ground := Ground.phase }, { on := 25, ground := Ground.phase }, { on := 26, ground := Ground.phase }], guard := none }]
def st7L (gB gF oF gS gW gV hb ho hc L N C k hk : Nat) (va : Option Addr) (wd vc : Nat) (ua : Option Addr) (uc : Nat) : List (Nat × Value) := [(39, .pointer (some ⟨gF, oF, none⟩)), (40, .pointer (some ⟨gF, oF, none⟩)), (41, .pointer (some ⟨gF, oF, none⟩)), (42, .slice (some ⟨gW, 0, none⟩) N N), (43, .pointer (some ⟨gS, 1, none⟩)), (44, .int .i64 ((C : Nat) : Int)), (45, .int .i64 ((k : Nat) : Int)), (46, .int .i64 ((C + k : Nat) : Int)), (47, .pointer (some ⟨gB, 0, none⟩)), (48, .slice (some ⟨hb, ho, none⟩) L hc), (49, .int .i64 ((k : Nat) : Int)), (50, .pointer (some ⟨hb, ho + (k), none⟩)), (51, .int .i64 ((hk : Nat) : Int)), (52, .slice (some ⟨gV, 0, none⟩) 2 2), (53, .pointer (some ⟨gV, 0 + (1), none⟩)), (54, .slice va wd vc), (55, .pointer (some ⟨gF, oF, none⟩)), (56, .pointer (some ⟨gF, oF, none⟩)), (57, .pointer (some ⟨gF, oF, none⟩)), (58, .slice (some ⟨gW, 0, none⟩) N N), (59, .pointer (some ⟨gS, 1, none⟩)), (60, .int .i64 ((C : Nat) : Int)), (61, .int .i64 ((k : Nat) : Int)), (62, .int .i64 ((C + k : Nat) : Int)), (63, .pointer (some ⟨gW, 0 + (C + k), none⟩)), (64, .slice ua wd uc), (65, undef), (66, .pointer (some ⟨gW, 0 + (C + k), none⟩))]
theorem st7_chk : chk st7 28 = true := by kernel_rfl
theorem st7_fst (gB gF oF gS gW gV hb ho hc L N C k hk : Nat) (va : Option Addr) (wd vc : Nat) (ua : Option Addr) (uc : Nat) : (st7L gB gF oF gS gW gV hb ho hc L N C k hk va wd vc ua uc).map Prod.fst = [39, 40, 41, 42, 43, 44, 45, 46, 47, 48, 49, 50, 51, 52, 53, 54, 55, 56, 57, 58, 59, 60, 61, 62, 63, 64, 65, 66] := rfl
set_option maxRecDepth 4000 in
set_option maxHeartbeats 4000000 in
theorem st7_c {Q : Exit → Act → World → Prop} {a0 : Act} {w : World} (gB gF oF gS gW gV hb ho hc L N C k hk : Nat) (va : Option Addr) (wd vc : Nat) (ua : Option Addr) (uc : Nat) (hz0 : a0.tmps.size = 78)
    (h2 : a0.tmps[2]? = some (.pointer (some ⟨gF, oF, none⟩)))
    (h4 : a0.tmps[4]? = some (.pointer (some ⟨gS, 0, none⟩)))
    (h9 : a0.tmps[9]? = some (.int .i64 ((k : Nat) : Int)))
    (h0 : a0.tmps[0]? = some (.pointer (some ⟨gB, 0, none⟩)))
    (h7 : a0.tmps[7]? = some (.slice (some ⟨hb, ho, none⟩) L hc))
    (h6 : a0.tmps[6]? = some (.slice (some ⟨gV, 0, none⟩) 2 2))
    (R : Value → World → Prop) (FW : World → Prop) (hF : ∀ W, FW W → W.cell? ⟨gF, oF, none⟩ = some (.slice (some ⟨gW, 0, none⟩) N N) ∧ W.cell? ⟨gS, 1, none⟩ = some (.int .i64 ((C : Nat) : Int)) ∧ W.cell? ⟨hb, ho + k, none⟩ = some (.int .i64 ((hk : Nat) : Int)) ∧ W.cell? ⟨gV, 0 + 1, none⟩ = some (.slice va wd vc) ∧ W.cell? ⟨gW, 0 + (C + k), none⟩ = some (.slice ua wd uc))
    (hkL : k < L) (hCk : C + k < N) (hadd : IntKind.i64.wrap ((C : Int) + (k : Int)) = ((C + k : Nat) : Int))
    (hd : FW w.drew) (hG : ∀ p W, R p W → FW W) (hC : Calls Try.prog 77 #[.pointer (some ⟨gB, 0, none⟩), .int .i64 ((hk : Nat) : Int), .slice va wd vc, .slice ua wd uc] w.drew fun e w' => ∃ p, e = .returned p ∧ R p w')
    (hend : ∀ p W, R p W → (∃ b n c, p = .slice b n c) ∧ (∃ u, W.cell? ⟨gW, 0 + (C + k), none⟩ = some u) ∧ W.frozen? ⟨gW, 0 + (C + k), none⟩ = false ∧ Q .normal (lay a0 ((st7L gB gF oF gS gW gV hb ho hc L N C k hk va wd vc ua uc).set 26 (65, p))) (W.setCell ⟨gW, 0 + (C + k), none⟩ p)) :
    (Code.region 7 st7 true).wp Try.prog Q a0 w := by
  have o2 : ∀ a : Act, (∀ t, t ∉ (st7L gB gF oF gS gW gV hb ho hc L N C k hk va wd vc ua uc).map Prod.fst → a.tmps[t]? = a0.tmps[t]?) → a.eval (.tmp 2) = .pointer (some ⟨gF, oF, none⟩) := fun a hot => veval_of ((hot 2 (by rw [st7_fst]; decide)).trans h2)
  have o4 : ∀ a : Act, (∀ t, t ∉ (st7L gB gF oF gS gW gV hb ho hc L N C k hk va wd vc ua uc).map Prod.fst → a.tmps[t]? = a0.tmps[t]?) → a.eval (.tmp 4) = .pointer (some ⟨gS, 0, none⟩) := fun a hot => veval_of ((hot 4 (by rw [st7_fst]; decide)).trans h4)
  have o9 : ∀ a : Act, (∀ t, t ∉ (st7L gB gF oF gS gW gV hb ho hc L N C k hk va wd vc ua uc).map Prod.fst → a.tmps[t]? = a0.tmps[t]?) → a.eval (.tmp 9) = .int .i64 ((k : Nat) : Int) := fun a hot => veval_of ((hot 9 (by rw [st7_fst]; decide)).trans h9)
  have o0 : ∀ a : Act, (∀ t, t ∉ (st7L gB gF oF gS gW gV hb ho hc L N C k hk va wd vc ua uc).map Prod.fst → a.tmps[t]? = a0.tmps[t]?) → a.eval (.tmp 0) = .pointer (some ⟨gB, 0, none⟩) := fun a hot => veval_of ((hot 0 (by rw [st7_fst]; decide)).trans h0)
  have o7 : ∀ a : Act, (∀ t, t ∉ (st7L gB gF oF gS gW gV hb ho hc L N C k hk va wd vc ua uc).map Prod.fst → a.tmps[t]? = a0.tmps[t]?) → a.eval (.tmp 7) = .slice (some ⟨hb, ho, none⟩) L hc := fun a hot => veval_of ((hot 7 (by rw [st7_fst]; decide)).trans h7)
  have o6 : ∀ a : Act, (∀ t, t ∉ (st7L gB gF oF gS gW gV hb ho hc L N C k hk va wd vc ua uc).map Prod.fst → a.tmps[t]? = a0.tmps[t]?) → a.eval (.tmp 6) = .slice (some ⟨gV, 0, none⟩) 2 2 := fun a hot => veval_of ((hot 6 (by rw [st7_fst]; decide)).trans h6)
  have hFW : ∀ W, (W = w.drew ∨ ∃ p, R p W) → W.cell? ⟨gF, oF, none⟩ = some (.slice (some ⟨gW, 0, none⟩) N N) ∧ W.cell? ⟨gS, 1, none⟩ = some (.int .i64 ((C : Nat) : Int)) ∧ W.cell? ⟨hb, ho + k, none⟩ = some (.int .i64 ((hk : Nat) : Int)) ∧ W.cell? ⟨gV, 0 + 1, none⟩ = some (.slice va wd vc) ∧ W.cell? ⟨gW, 0 + (C + k), none⟩ = some (.slice ua wd uc) := fun W h => hF W (by
    rcases h with h | ⟨p, h⟩
    · rw [h]; exact hd
    · exact hG p W h)
  have hsz : ∀ x ∈ (st7L gB gF oF gS gW gV hb ho hc L N C k hk va wd vc ua uc), x.1 < a0.tmps.size := by
    intro x hx
    have hx1 : x.1 ∈ (st7L gB gF oF gS gW gV hb ho hc L N C k hk va wd vc ua uc).map Prod.fst := List.mem_map_of_mem hx
    rw [st7_fst] at hx1
    rw [hz0]
    have : ∀ y ∈ [39, 40, 41, 42, 43, 44, 45, 46, 47, 48, 49, 50, 51, 52, 53, 54, 55, 56, 57, 58, 59, 60, 61, 62, 63, 64, 65, 66], y < 78 := by decide
    exact this _ hx1
  refine wp_region_var (by rfl) 28 (st7L gB gF oF gS gW gV hb ho hc L N C k hk va wd vc ua uc) rfl (by decide) st7_chk (by rw [st7_fst]; decide) hsz 26 65 (by decide) ⟨_, rfl⟩ (fun p : Value => p) (fun W => W = w.drew) R rfl ?_ ?_ ?_
  · intro i x hx hiq a w' hJG hot hdp
    match i, hx with
    | 0, hx =>
      obtain rfl : (39, .pointer (some ⟨gF, oF, none⟩)) = x := Option.some.inj hx
      have e1 := o2 a hot
      exact wpOp_of _ rfl rfl (v_move (.tmp 2) _ rfl e1 ⟨rfl, id, fun _ => id⟩)
    | 1, hx =>
      obtain rfl : (40, .pointer (some ⟨gF, oF, none⟩)) = x := Option.some.inj hx
      have e1 := veval_of (hdp 0 (by decide) (39, .pointer (some ⟨gF, oF, none⟩)) rfl (by decide))
      exact wpOp_of _ rfl rfl (v_nil (.tmp 39) _ rfl e1 ⟨rfl, id, fun _ => id⟩)
    | 2, hx =>
      obtain rfl : (41, .pointer (some ⟨gF, oF, none⟩)) = x := Option.some.inj hx
      have e1 := veval_of (hdp 1 (by decide) (40, .pointer (some ⟨gF, oF, none⟩)) rfl (by decide))
      exact wpOp_of _ rfl rfl (v_f48 (.tmp 40) _ _ rfl e1 ⟨rfl, id, fun _ => id⟩)
    | 3, hx =>
      obtain rfl : (42, .slice (some ⟨gW, 0, none⟩) N N) = x := Option.some.inj hx
      have e1 := veval_of (hdp 2 (by decide) (41, .pointer (some ⟨gF, oF, none⟩)) rfl (by decide))
      exact wpOp_of _ rfl rfl (v_load45 (.tmp 41) _ _ _ rfl e1 (hFW w' hJG).1 ⟨rfl, id, fun _ => id⟩)
    | 4, hx =>
      obtain rfl : (43, .pointer (some ⟨gS, 1, none⟩)) = x := Option.some.inj hx
      have e1 := o4 a hot
      exact wpOp_of _ rfl rfl (v_f109 (.tmp 4) _ rfl e1 ⟨rfl, id, fun _ => id⟩)
    | 5, hx =>
      obtain rfl : (44, .int .i64 ((C : Nat) : Int)) = x := Option.some.inj hx
      have e1 := veval_of (hdp 4 (by decide) (43, .pointer (some ⟨gS, 1, none⟩)) rfl (by decide))
      exact wpOp_of _ rfl rfl (v_load3 (.tmp 43) _ _ _ rfl e1 (hFW w' hJG).2.1 ⟨rfl, id, fun _ => id⟩)
    | 6, hx =>
      obtain rfl : (45, .int .i64 ((k : Nat) : Int)) = x := Option.some.inj hx
      have e1 := o9 a hot
      exact wpOp_of _ rfl rfl (v_move (.tmp 9) _ rfl e1 ⟨rfl, id, fun _ => id⟩)
    | 7, hx =>
      obtain rfl : (46, .int .i64 ((C + k : Nat) : Int)) = x := Option.some.inj hx
      have e1 := veval_of (hdp 5 (by decide) (44, .int .i64 ((C : Nat) : Int)) rfl (by decide))
      have e2 := veval_of (hdp 6 (by decide) (45, .int .i64 ((k : Nat) : Int)) rfl (by decide))
      exact wpOp_of _ rfl rfl (v_addi (.tmp 44) (.tmp 45) _ _ _ rfl e1 e2 hadd ⟨rfl, id, fun _ => id⟩)
    | 8, hx =>
      obtain rfl : (47, .pointer (some ⟨gB, 0, none⟩)) = x := Option.some.inj hx
      have e1 := o0 a hot
      exact wpOp_of _ rfl rfl (v_move (.tmp 0) _ rfl e1 ⟨rfl, id, fun _ => id⟩)
    | 9, hx =>
      obtain rfl : (48, .slice (some ⟨hb, ho, none⟩) L hc) = x := Option.some.inj hx
      have e1 := o7 a hot
      exact wpOp_of _ rfl rfl (v_move (.tmp 7) _ rfl e1 ⟨rfl, id, fun _ => id⟩)
    | 10, hx =>
      obtain rfl : (49, .int .i64 ((k : Nat) : Int)) = x := Option.some.inj hx
      have e1 := o9 a hot
      exact wpOp_of _ rfl rfl (v_move (.tmp 9) _ rfl e1 ⟨rfl, id, fun _ => id⟩)
    | 11, hx =>
      obtain rfl : (50, .pointer (some ⟨hb, ho + (k), none⟩)) = x := Option.some.inj hx
      have e1 := veval_of (hdp 9 (by decide) (48, .slice (some ⟨hb, ho, none⟩) L hc) rfl (by decide))
      have e2 := veval_of (hdp 10 (by decide) (49, .int .i64 ((k : Nat) : Int)) rfl (by decide))
      exact wpOp_of _ rfl rfl (v_index95 (.tmp 48) (.tmp 49) _ _ _ _ (k) rfl e1 e2 hkL ⟨rfl, id, fun _ => id⟩)
    | 12, hx =>
      obtain rfl : (51, .int .i64 ((hk : Nat) : Int)) = x := Option.some.inj hx
      have e1 := veval_of (hdp 11 (by decide) (50, .pointer (some ⟨hb, ho + (k), none⟩)) rfl (by decide))
      exact wpOp_of _ rfl rfl (v_load46 (.tmp 50) _ _ _ rfl e1 (hFW w' hJG).2.2.1 ⟨rfl, id, fun _ => id⟩)
    | 13, hx =>
      obtain rfl : (52, .slice (some ⟨gV, 0, none⟩) 2 2) = x := Option.some.inj hx
      have e1 := o6 a hot
      exact wpOp_of _ rfl rfl (v_move (.tmp 6) _ rfl e1 ⟨rfl, id, fun _ => id⟩)
    | 14, hx =>
      obtain rfl : (53, .pointer (some ⟨gV, 0 + (1), none⟩)) = x := Option.some.inj hx
      have e1 := veval_of (hdp 13 (by decide) (52, .slice (some ⟨gV, 0, none⟩) 2 2) rfl (by decide))
      exact wpOp_of _ rfl rfl (v_index45 (.tmp 52) (.const (.int .i64 1)) _ _ _ _ 1 rfl e1 rfl (by decide) ⟨rfl, id, fun _ => id⟩)
    | 15, hx =>
      obtain rfl : (54, .slice va wd vc) = x := Option.some.inj hx
      have e1 := veval_of (hdp 14 (by decide) (53, .pointer (some ⟨gV, 0 + (1), none⟩)) rfl (by decide))
      exact wpOp_of _ rfl rfl (v_load96 (.tmp 53) _ _ _ rfl e1 (hFW w' hJG).2.2.2.1 ⟨rfl, id, fun _ => id⟩)
    | 16, hx =>
      obtain rfl : (55, .pointer (some ⟨gF, oF, none⟩)) = x := Option.some.inj hx
      have e1 := o2 a hot
      exact wpOp_of _ rfl rfl (v_move (.tmp 2) _ rfl e1 ⟨rfl, id, fun _ => id⟩)
    | 17, hx =>
      obtain rfl : (56, .pointer (some ⟨gF, oF, none⟩)) = x := Option.some.inj hx
      have e1 := veval_of (hdp 16 (by decide) (55, .pointer (some ⟨gF, oF, none⟩)) rfl (by decide))
      exact wpOp_of _ rfl rfl (v_nil (.tmp 55) _ rfl e1 ⟨rfl, id, fun _ => id⟩)
    | 18, hx =>
      obtain rfl : (57, .pointer (some ⟨gF, oF, none⟩)) = x := Option.some.inj hx
      have e1 := veval_of (hdp 17 (by decide) (56, .pointer (some ⟨gF, oF, none⟩)) rfl (by decide))
      exact wpOp_of _ rfl rfl (v_f48 (.tmp 56) _ _ rfl e1 ⟨rfl, id, fun _ => id⟩)
    | 19, hx =>
      obtain rfl : (58, .slice (some ⟨gW, 0, none⟩) N N) = x := Option.some.inj hx
      have e1 := veval_of (hdp 18 (by decide) (57, .pointer (some ⟨gF, oF, none⟩)) rfl (by decide))
      exact wpOp_of _ rfl rfl (v_load45 (.tmp 57) _ _ _ rfl e1 (hFW w' hJG).1 ⟨rfl, id, fun _ => id⟩)
    | 20, hx =>
      obtain rfl : (59, .pointer (some ⟨gS, 1, none⟩)) = x := Option.some.inj hx
      have e1 := o4 a hot
      exact wpOp_of _ rfl rfl (v_f109 (.tmp 4) _ rfl e1 ⟨rfl, id, fun _ => id⟩)
    | 21, hx =>
      obtain rfl : (60, .int .i64 ((C : Nat) : Int)) = x := Option.some.inj hx
      have e1 := veval_of (hdp 20 (by decide) (59, .pointer (some ⟨gS, 1, none⟩)) rfl (by decide))
      exact wpOp_of _ rfl rfl (v_load3 (.tmp 59) _ _ _ rfl e1 (hFW w' hJG).2.1 ⟨rfl, id, fun _ => id⟩)
    | 22, hx =>
      obtain rfl : (61, .int .i64 ((k : Nat) : Int)) = x := Option.some.inj hx
      have e1 := o9 a hot
      exact wpOp_of _ rfl rfl (v_move (.tmp 9) _ rfl e1 ⟨rfl, id, fun _ => id⟩)
    | 23, hx =>
      obtain rfl : (62, .int .i64 ((C + k : Nat) : Int)) = x := Option.some.inj hx
      have e1 := veval_of (hdp 21 (by decide) (60, .int .i64 ((C : Nat) : Int)) rfl (by decide))
      have e2 := veval_of (hdp 22 (by decide) (61, .int .i64 ((k : Nat) : Int)) rfl (by decide))
      exact wpOp_of _ rfl rfl (v_addi (.tmp 60) (.tmp 61) _ _ _ rfl e1 e2 hadd ⟨rfl, id, fun _ => id⟩)
    | 24, hx =>
      obtain rfl : (63, .pointer (some ⟨gW, 0 + (C + k), none⟩)) = x := Option.some.inj hx
      have e1 := veval_of (hdp 19 (by decide) (58, .slice (some ⟨gW, 0, none⟩) N N) rfl (by decide))
      have e2 := veval_of (hdp 23 (by decide) (62, .int .i64 ((C + k : Nat) : Int)) rfl (by decide))
      exact wpOp_of _ rfl rfl (v_index45 (.tmp 58) (.tmp 62) _ _ _ _ (C + k) rfl e1 e2 hCk ⟨rfl, id, fun _ => id⟩)
    | 25, hx =>
      obtain rfl : (64, .slice ua wd uc) = x := Option.some.inj hx
      have e1 := veval_of (hdp 24 (by decide) (63, .pointer (some ⟨gW, 0 + (C + k), none⟩)) rfl (by decide))
      exact wpOp_of _ rfl rfl (v_load96 (.tmp 63) _ _ _ rfl e1 (hFW w' hJG).2.2.2.2 ⟨rfl, id, fun _ => id⟩)
    | 26, hx => exact absurd rfl hiq
    | 27, hx =>
      obtain rfl : (66, .pointer (some ⟨gW, 0 + (C + k), none⟩)) = x := Option.some.inj hx
      have e1 := veval_of (hdp 3 (by decide) (42, .slice (some ⟨gW, 0, none⟩) N N) rfl (by decide))
      have e2 := veval_of (hdp 7 (by decide) (46, .int .i64 ((C + k : Nat) : Int)) rfl (by decide))
      exact wpOp_of _ rfl rfl (v_index45 (.tmp 42) (.tmp 46) _ _ _ _ (C + k) rfl e1 e2 hCk ⟨rfl, id, fun _ => id⟩)
    | i + 28, hx => simp [st7L] at hx
  · intro a w' hJ hot hdp
    subst hJ
    have e0 := veval_of (hdp 8 (by decide) (47, .pointer (some ⟨gB, 0, none⟩)) rfl (by decide))
    have e1 := veval_of (hdp 12 (by decide) (51, .int .i64 ((hk : Nat) : Int)) rfl (by decide))
    have e2 := veval_of (hdp 15 (by decide) (54, .slice va wd vc) rfl (by decide))
    have e3 := veval_of (hdp 25 (by decide) (64, .slice ua wd uc) rfl (by decide))
    refine wpOp_of _ rfl rfl (v_call 77 _ _ rfl _ Try.func77 (by kernel_rfl) (by kernel_rfl) #[.pointer (some ⟨gB, 0, none⟩), .int .i64 ((hk : Nat) : Int), .slice va wd vc, .slice ua wd uc] (by simp [e0, e1, e2, e3]) (hC.mono ?_))
    rintro e w2 ⟨p, rfl, hp⟩
    exact ⟨p, rfl, p, rfl, hp⟩
  · intro W p hp
    obtain ⟨g1, ⟨u, g2⟩, g3, g4⟩ := hend p W hp
    have hnd : (((st7L gB gF oF gS gW gV hb ho hc L N C k hk va wd vc ua uc).set 26 (65, p)).map Prod.fst).Nodup := by
      rw [show ((st7L gB gF oF gS gW gV hb ho hc L N C k hk va wd vc ua uc).set 26 (65, p)).map Prod.fst = [39, 40, 41, 42, 43, 44, 45, 46, 47, 48, 49, 50, 51, 52, 53, 54, 55, 56, 57, 58, 59, 60, 61, 62, 63, 64, 65, 66] from rfl]; decide
    have hs2 : ∀ x ∈ (st7L gB gF oF gS gW gV hb ho hc L N C k hk va wd vc ua uc).set 26 (65, p), x.1 < a0.tmps.size := by
      intro x hx
      have hx1 : x.1 ∈ ((st7L gB gF oF gS gW gV hb ho hc L N C k hk va wd vc ua uc).set 26 (65, p)).map Prod.fst := List.mem_map_of_mem hx
      rw [show ((st7L gB gF oF gS gW gV hb ho hc L N C k hk va wd vc ua uc).set 26 (65, p)).map Prod.fst = [39, 40, 41, 42, 43, 44, 45, 46, 47, 48, 49, 50, 51, 52, 53, 54, 55, 56, 57, 58, 59, 60, 61, 62, 63, 64, 65, 66] from rfl] at hx1
      rw [hz0]
      have : ∀ y ∈ [39, 40, 41, 42, 43, 44, 45, 46, 47, 48, 49, 50, 51, 52, 53, 54, 55, 56, 57, 58, 59, 60, 61, 62, 63, 64, 65, 66], y < 78 := by decide
      exact this _ hx1
    have k1 : (lay a0 ((st7L gB gF oF gS gW gV hb ho hc L N C k hk va wd vc ua uc).set 26 (65, p))).tmps[66]? = some (.pointer (some ⟨gW, 0 + (C + k), none⟩)) := lay_at _ a0 hnd hs2 (66, .pointer (some ⟨gW, 0 + (C + k), none⟩)) (List.mem_of_getElem? (i := 27) rfl)
    have k2 : (lay a0 ((st7L gB gF oF gS gW gV hb ho hc L N C k hk va wd vc ua uc).set 26 (65, p))).tmps[65]? = some p := lay_at _ a0 hnd hs2 (65, p) (List.mem_of_getElem? (i := 26) rfl)
    generalize lay a0 ((st7L gB gF oF gS gW gV hb ho hc L N C k hk va wd vc ua uc).set 26 (65, p)) = A at *
    show wpOps Try.prog st7 Q [28] A W
    rw [wpOps_cons]
    exact wpOp_of _ rfl rfl (v_store96 (.tmp 66) (.tmp 65) _ _ p u g1 rfl rfl (veval_of k1) (veval_of k2) g2 g3 g4)
def br8 : Array Oper := #[{ dst := some 34, op := Op.move (Operand.tmp 2), type := 91, pos := "exec.go:181", after := #[], guard := none }, { dst := some 35, op := Op.nilCheck (Operand.tmp 34), type := 0, pos := "exec.go:181", after := #[{ on := 0, ground := Ground.data }], guard := none }, { dst := some 36, op := Op.fieldAddr 48 (Operand.tmp 35) 0, type := 0, pos := "exec.go:181", after := #[{ on := 1, ground := Ground.data }], guard := none }, { dst := some 37, op := Op.load 45 (Operand.tmp 36), type := 45, pos := "exec.go:181", after := #[{ on := 2, ground := Ground.data }], guard := none }, { dst := some 38, op := Op.move (Operand.tmp 8), type := 3, pos := "exec.go:181", after := #[], guard := none }, { dst := some 39, op := Op.move (Operand.tmp 0), type := 85, pos := "exec.go:181", after := #[], guard := none }, { dst := some 40, op := Op.move (Operand.tmp 6), type := 96, pos := "exec.go:181", after := #[], guard := none }, { dst := some 41, op := Op.indexAddr 96 (Operand.tmp 40) (Operand.const (Value.int IntKind.i64 0)), type := 0, pos := "exec.go:181", after := #[{ on := 6, ground := Ground.data }], guard := none }, { dst := some 42, op := Op.load 46 (Operand.tmp 41), type := 46, pos := "exec.go:181", after := #[{ on := 7, ground := Ground.data }], guard := none }, { dst := some 43, op := Op.move (Operand.tmp 2), type := 91, pos := "exec.go:181", after := #[], guard := none }, { dst := some 44, op := Op.nilCheck (Operand.tmp 43), type := 0, pos := "exec.go:181", after := #[{ on := 9, ground := Ground.data }], guard := none }, { dst := some 45, op := Op.fieldAddr 48 (Operand.tmp 44) 0, type := 0, pos := "exec.go:181", after := #[{ on := 10, ground := Ground.data }], guard := none }, { dst := some 46, op := Op.load 45 (Operand.tmp 45), type := 45, pos := "exec.go:181", after := #[{ on := 11, ground := Ground.data }], guard := none }, { dst := some 47, op := Op.move (Operand.tmp 8), type := 3, pos := "exec.go:181", after := #[], guard := none }, { dst := some 48, op := Op.indexAddr 45 (Operand.tmp 46) (Operand.tmp 47), type := 0, pos := "exec.go:181", after := #[{ on := 12, ground := Ground.data }, { on := 13, ground := Ground.data }], guard := none }, { dst := some 49, op := Op.load 96 (Operand.tmp 48), type := 96, pos := "exec.go:181", after := #[{ on := 14, ground := Ground.data }], guard := none }, { dst := some 50, op := Op.fieldAddr 48 (Operand.tmp 7) 0, type := 0, pos := "exec.go:181", after := #[], guard := none }, { dst := some 51, op := Op.load 45 (Operand.tmp 50), type := 45, pos := "exec.go:181", after := #[{ on := 16, ground := Ground.data }], guard := none }, { dst := some 52, op := Op.move (Operand.tmp 8), type := 3, pos := "exec.go:181", after := #[], guard := none }, { dst := some 53, op := Op.indexAddr 45 (Operand.tmp 51) (Operand.tmp 52), type := 0, pos := "exec.go:181", after := #[{ on := 17, ground := Ground.data }, { on := 18, ground := Ground.data }], guard := none }, { dst := some 54, op := Op.load 96 (Operand.tmp 53), type := 96, pos := "exec.go:181", after := #[{ on := 19, ground := Ground.data }], guard := none }, { dst := some 55, op := Op.call { callee := Callee.value (Operand.func 77), args := #[Operand.tmp 39, Operand.tmp 42, Operand.tmp 49, Operand.tmp 54], argTypes := #[85, 46, 96, 96] }, type := 96, pos := "exec.go:181", after := #[{ on := 5, ground := Ground.data }, { on := 8, ground := Ground.data }, { on := 15, ground := Ground.data }, { on := 20, ground := Ground.data }], guard := none }, { dst := some 56, op := Op.indexAddr 45 (Operand.tmp 37) (Operand.tmp 38), type := 0, pos := "exec.go:181", after := #[{ on := 3, ground := Ground.data }, { on := 4, ground := Ground.data }, { on := 0, ground := Ground.phase }, { on := 1, ground := Ground.phase }, { on := 2, ground := Ground.phase }, { on := 3, ground := Ground.phase }, { on := 4, ground := Ground.phase }, { on := 5, ground := Ground.phase }, { on := 6, ground := Ground.phase }, { on := 7, ground := Ground.phase }, { on := 8, ground := Ground.phase }, { on := 9, ground := Ground.phase }, { on := 10, ground := Ground.phase }, { on := 11, ground := Ground.phase }, { on := 12, ground := Ground.phase }, { on := 13, ground := Ground.phase }, { on := 14, ground := Ground.phase }, { on := 15, ground := Ground.phase }, { on := 16, ground := Ground.phase }, { on := 17, ground := Ground.phase }, { on := 18, ground := Ground.phase }, { on := 19, ground := Ground.phase }, { on := 20, ground := Ground.phase }, { on := 21, ground := Ground.phase }], guard := none }, { dst := none, op := Op.store 96 (Operand.tmp 56) (Operand.tmp 55), type := 0, pos := "exec.go:181", after := #[{ on := 22, ground := Ground.data }, { on := 21, ground := Ground.data }, { on := 21, ground := Ground.chain }, { on := 0, ground := Ground.phase }, { on := 1, ground := Ground.phase }, { on := 2, ground := Ground.phase }, { on := 3, ground := Ground.phase }, { on := 4, ground := Ground.phase }, { on := 5, ground := Ground.phase }, { on := 6, ground := Ground.phase }, { on := 7, ground := Ground.phase }, { on := 8, ground := Ground.phase }, { on := 9, ground := Ground.phase }, { on := 10, ground := Ground.phase }, { on := 11, ground := Ground.phase }, { on := 12, ground := Ground.phase }, { on := 13, ground := Ground.phase }, { on := 14, ground := Ground.phase }, { on := 15, ground := Ground.phase }, { on := 16, ground := Ground.phase }, { on := 17, ground := Ground.phase }, { on := 18, ground := Ground.phase }, { on := 19, ground := Ground.phase }, { on := 20, ground := Ground.phase }, { on := 21, ground := Ground.phase }], guard := none }]
def br8L (gB gF oF gW gO gW2 cb co cc N k pc : Nat) (va : Option Addr) (wd vc : Nat) (ua : Option Addr) (uc : Nat) : List (Nat × Value) := [(34, .pointer (some ⟨gF, oF, none⟩)), (35, .pointer (some ⟨gF, oF, none⟩)), (36, .pointer (some ⟨gF, oF, none⟩)), (37, .slice (some ⟨gW, 0, none⟩) N N), (38, .int .i64 ((k : Nat) : Int)), (39, .pointer (some ⟨gB, 0, none⟩)), (40, .slice (some ⟨cb, co, none⟩) 1 cc), (41, .pointer (some ⟨cb, co + (0), none⟩)), (42, .int .i64 ((pc : Nat) : Int)), (43, .pointer (some ⟨gF, oF, none⟩)), (44, .pointer (some ⟨gF, oF, none⟩)), (45, .pointer (some ⟨gF, oF, none⟩)), (46, .slice (some ⟨gW, 0, none⟩) N N), (47, .int .i64 ((k : Nat) : Int)), (48, .pointer (some ⟨gW, 0 + (k), none⟩)), (49, .slice va wd vc), (50, .pointer (some ⟨gO, 0, none⟩)), (51, .slice (some ⟨gW2, 0, none⟩) N N), (52, .int .i64 ((k : Nat) : Int)), (53, .pointer (some ⟨gW2, 0 + (k), none⟩)), (54, .slice ua wd uc), (55, undef), (56, .pointer (some ⟨gW, 0 + (k), none⟩))]
theorem br8_chk : chk br8 23 = true := by kernel_rfl
theorem br8_fst (gB gF oF gW gO gW2 cb co cc N k pc : Nat) (va : Option Addr) (wd vc : Nat) (ua : Option Addr) (uc : Nat) : (br8L gB gF oF gW gO gW2 cb co cc N k pc va wd vc ua uc).map Prod.fst = [34, 35, 36, 37, 38, 39, 40, 41, 42, 43, 44, 45, 46, 47, 48, 49, 50, 51, 52, 53, 54, 55, 56] := rfl
set_option maxRecDepth 4000 in
set_option maxHeartbeats 4000000 in
theorem br8_c {Q : Exit → Act → World → Prop} {a0 : Act} {w : World} (gB gF oF gW gO gW2 cb co cc N k pc : Nat) (va : Option Addr) (wd vc : Nat) (ua : Option Addr) (uc : Nat) (hz0 : a0.tmps.size = 76)
    (h2 : a0.tmps[2]? = some (.pointer (some ⟨gF, oF, none⟩)))
    (h8 : a0.tmps[8]? = some (.int .i64 ((k : Nat) : Int)))
    (h0 : a0.tmps[0]? = some (.pointer (some ⟨gB, 0, none⟩)))
    (h6 : a0.tmps[6]? = some (.slice (some ⟨cb, co, none⟩) 1 cc))
    (h7 : a0.tmps[7]? = some (.pointer (some ⟨gO, 0, none⟩)))
    (R : Value → World → Prop) (FW : World → Prop) (hF : ∀ W, FW W → W.cell? ⟨gF, oF, none⟩ = some (.slice (some ⟨gW, 0, none⟩) N N) ∧ W.cell? ⟨cb, co + 0, none⟩ = some (.int .i64 ((pc : Nat) : Int)) ∧ W.cell? ⟨gW, 0 + k, none⟩ = some (.slice va wd vc) ∧ W.cell? ⟨gO, 0, none⟩ = some (.slice (some ⟨gW2, 0, none⟩) N N) ∧ W.cell? ⟨gW2, 0 + k, none⟩ = some (.slice ua wd uc))
    (hkN : k < N)
    (hd : FW w.drew) (hG : ∀ p W, R p W → FW W) (hC : Calls Try.prog 77 #[.pointer (some ⟨gB, 0, none⟩), .int .i64 ((pc : Nat) : Int), .slice va wd vc, .slice ua wd uc] w.drew fun e w' => ∃ p, e = .returned p ∧ R p w')
    (hend : ∀ p W, R p W → (∃ b n c, p = .slice b n c) ∧ (∃ u, W.cell? ⟨gW, 0 + (k), none⟩ = some u) ∧ W.frozen? ⟨gW, 0 + (k), none⟩ = false ∧ Q .normal (lay a0 ((br8L gB gF oF gW gO gW2 cb co cc N k pc va wd vc ua uc).set 21 (55, p))) (W.setCell ⟨gW, 0 + (k), none⟩ p)) :
    (Code.region 8 br8 true).wp Try.prog Q a0 w := by
  have o2 : ∀ a : Act, (∀ t, t ∉ (br8L gB gF oF gW gO gW2 cb co cc N k pc va wd vc ua uc).map Prod.fst → a.tmps[t]? = a0.tmps[t]?) → a.eval (.tmp 2) = .pointer (some ⟨gF, oF, none⟩) := fun a hot => veval_of ((hot 2 (by rw [br8_fst]; decide)).trans h2)
  have o8 : ∀ a : Act, (∀ t, t ∉ (br8L gB gF oF gW gO gW2 cb co cc N k pc va wd vc ua uc).map Prod.fst → a.tmps[t]? = a0.tmps[t]?) → a.eval (.tmp 8) = .int .i64 ((k : Nat) : Int) := fun a hot => veval_of ((hot 8 (by rw [br8_fst]; decide)).trans h8)
  have o0 : ∀ a : Act, (∀ t, t ∉ (br8L gB gF oF gW gO gW2 cb co cc N k pc va wd vc ua uc).map Prod.fst → a.tmps[t]? = a0.tmps[t]?) → a.eval (.tmp 0) = .pointer (some ⟨gB, 0, none⟩) := fun a hot => veval_of ((hot 0 (by rw [br8_fst]; decide)).trans h0)
  have o6 : ∀ a : Act, (∀ t, t ∉ (br8L gB gF oF gW gO gW2 cb co cc N k pc va wd vc ua uc).map Prod.fst → a.tmps[t]? = a0.tmps[t]?) → a.eval (.tmp 6) = .slice (some ⟨cb, co, none⟩) 1 cc := fun a hot => veval_of ((hot 6 (by rw [br8_fst]; decide)).trans h6)
  have o7 : ∀ a : Act, (∀ t, t ∉ (br8L gB gF oF gW gO gW2 cb co cc N k pc va wd vc ua uc).map Prod.fst → a.tmps[t]? = a0.tmps[t]?) → a.eval (.tmp 7) = .pointer (some ⟨gO, 0, none⟩) := fun a hot => veval_of ((hot 7 (by rw [br8_fst]; decide)).trans h7)
  have hFW : ∀ W, (W = w.drew ∨ ∃ p, R p W) → W.cell? ⟨gF, oF, none⟩ = some (.slice (some ⟨gW, 0, none⟩) N N) ∧ W.cell? ⟨cb, co + 0, none⟩ = some (.int .i64 ((pc : Nat) : Int)) ∧ W.cell? ⟨gW, 0 + k, none⟩ = some (.slice va wd vc) ∧ W.cell? ⟨gO, 0, none⟩ = some (.slice (some ⟨gW2, 0, none⟩) N N) ∧ W.cell? ⟨gW2, 0 + k, none⟩ = some (.slice ua wd uc) := fun W h => hF W (by
    rcases h with h | ⟨p, h⟩
    · rw [h]; exact hd
    · exact hG p W h)
  have hsz : ∀ x ∈ (br8L gB gF oF gW gO gW2 cb co cc N k pc va wd vc ua uc), x.1 < a0.tmps.size := by
    intro x hx
    have hx1 : x.1 ∈ (br8L gB gF oF gW gO gW2 cb co cc N k pc va wd vc ua uc).map Prod.fst := List.mem_map_of_mem hx
    rw [br8_fst] at hx1
    rw [hz0]
    have : ∀ y ∈ [34, 35, 36, 37, 38, 39, 40, 41, 42, 43, 44, 45, 46, 47, 48, 49, 50, 51, 52, 53, 54, 55, 56], y < 76 := by decide
    exact this _ hx1
  refine wp_region_var (by rfl) 23 (br8L gB gF oF gW gO gW2 cb co cc N k pc va wd vc ua uc) rfl (by decide) br8_chk (by rw [br8_fst]; decide) hsz 21 55 (by decide) ⟨_, rfl⟩ (fun p : Value => p) (fun W => W = w.drew) R rfl ?_ ?_ ?_
  · intro i x hx hiq a w' hJG hot hdp
    match i, hx with
    | 0, hx =>
      obtain rfl : (34, .pointer (some ⟨gF, oF, none⟩)) = x := Option.some.inj hx
      have e1 := o2 a hot
      exact wpOp_of _ rfl rfl (v_move (.tmp 2) _ rfl e1 ⟨rfl, id, fun _ => id⟩)
    | 1, hx =>
      obtain rfl : (35, .pointer (some ⟨gF, oF, none⟩)) = x := Option.some.inj hx
      have e1 := veval_of (hdp 0 (by decide) (34, .pointer (some ⟨gF, oF, none⟩)) rfl (by decide))
      exact wpOp_of _ rfl rfl (v_nil (.tmp 34) _ rfl e1 ⟨rfl, id, fun _ => id⟩)
    | 2, hx =>
      obtain rfl : (36, .pointer (some ⟨gF, oF, none⟩)) = x := Option.some.inj hx
      have e1 := veval_of (hdp 1 (by decide) (35, .pointer (some ⟨gF, oF, none⟩)) rfl (by decide))
      exact wpOp_of _ rfl rfl (v_f48 (.tmp 35) _ _ rfl e1 ⟨rfl, id, fun _ => id⟩)
    | 3, hx =>
      obtain rfl : (37, .slice (some ⟨gW, 0, none⟩) N N) = x := Option.some.inj hx
      have e1 := veval_of (hdp 2 (by decide) (36, .pointer (some ⟨gF, oF, none⟩)) rfl (by decide))
      exact wpOp_of _ rfl rfl (v_load45 (.tmp 36) _ _ _ rfl e1 (hFW w' hJG).1 ⟨rfl, id, fun _ => id⟩)
    | 4, hx =>
      obtain rfl : (38, .int .i64 ((k : Nat) : Int)) = x := Option.some.inj hx
      have e1 := o8 a hot
      exact wpOp_of _ rfl rfl (v_move (.tmp 8) _ rfl e1 ⟨rfl, id, fun _ => id⟩)
    | 5, hx =>
      obtain rfl : (39, .pointer (some ⟨gB, 0, none⟩)) = x := Option.some.inj hx
      have e1 := o0 a hot
      exact wpOp_of _ rfl rfl (v_move (.tmp 0) _ rfl e1 ⟨rfl, id, fun _ => id⟩)
    | 6, hx =>
      obtain rfl : (40, .slice (some ⟨cb, co, none⟩) 1 cc) = x := Option.some.inj hx
      have e1 := o6 a hot
      exact wpOp_of _ rfl rfl (v_move (.tmp 6) _ rfl e1 ⟨rfl, id, fun _ => id⟩)
    | 7, hx =>
      obtain rfl : (41, .pointer (some ⟨cb, co + (0), none⟩)) = x := Option.some.inj hx
      have e1 := veval_of (hdp 6 (by decide) (40, .slice (some ⟨cb, co, none⟩) 1 cc) rfl (by decide))
      exact wpOp_of _ rfl rfl (v_index96 (.tmp 40) (.const (.int .i64 0)) _ _ _ _ 0 rfl e1 rfl (by decide) ⟨rfl, id, fun _ => id⟩)
    | 8, hx =>
      obtain rfl : (42, .int .i64 ((pc : Nat) : Int)) = x := Option.some.inj hx
      have e1 := veval_of (hdp 7 (by decide) (41, .pointer (some ⟨cb, co + (0), none⟩)) rfl (by decide))
      exact wpOp_of _ rfl rfl (v_load46 (.tmp 41) _ _ _ rfl e1 (hFW w' hJG).2.1 ⟨rfl, id, fun _ => id⟩)
    | 9, hx =>
      obtain rfl : (43, .pointer (some ⟨gF, oF, none⟩)) = x := Option.some.inj hx
      have e1 := o2 a hot
      exact wpOp_of _ rfl rfl (v_move (.tmp 2) _ rfl e1 ⟨rfl, id, fun _ => id⟩)
    | 10, hx =>
      obtain rfl : (44, .pointer (some ⟨gF, oF, none⟩)) = x := Option.some.inj hx
      have e1 := veval_of (hdp 9 (by decide) (43, .pointer (some ⟨gF, oF, none⟩)) rfl (by decide))
      exact wpOp_of _ rfl rfl (v_nil (.tmp 43) _ rfl e1 ⟨rfl, id, fun _ => id⟩)
    | 11, hx =>
      obtain rfl : (45, .pointer (some ⟨gF, oF, none⟩)) = x := Option.some.inj hx
      have e1 := veval_of (hdp 10 (by decide) (44, .pointer (some ⟨gF, oF, none⟩)) rfl (by decide))
      exact wpOp_of _ rfl rfl (v_f48 (.tmp 44) _ _ rfl e1 ⟨rfl, id, fun _ => id⟩)
    | 12, hx =>
      obtain rfl : (46, .slice (some ⟨gW, 0, none⟩) N N) = x := Option.some.inj hx
      have e1 := veval_of (hdp 11 (by decide) (45, .pointer (some ⟨gF, oF, none⟩)) rfl (by decide))
      exact wpOp_of _ rfl rfl (v_load45 (.tmp 45) _ _ _ rfl e1 (hFW w' hJG).1 ⟨rfl, id, fun _ => id⟩)
    | 13, hx =>
      obtain rfl : (47, .int .i64 ((k : Nat) : Int)) = x := Option.some.inj hx
      have e1 := o8 a hot
      exact wpOp_of _ rfl rfl (v_move (.tmp 8) _ rfl e1 ⟨rfl, id, fun _ => id⟩)
    | 14, hx =>
      obtain rfl : (48, .pointer (some ⟨gW, 0 + (k), none⟩)) = x := Option.some.inj hx
      have e1 := veval_of (hdp 12 (by decide) (46, .slice (some ⟨gW, 0, none⟩) N N) rfl (by decide))
      have e2 := veval_of (hdp 13 (by decide) (47, .int .i64 ((k : Nat) : Int)) rfl (by decide))
      exact wpOp_of _ rfl rfl (v_index45 (.tmp 46) (.tmp 47) _ _ _ _ (k) rfl e1 e2 hkN ⟨rfl, id, fun _ => id⟩)
    | 15, hx =>
      obtain rfl : (49, .slice va wd vc) = x := Option.some.inj hx
      have e1 := veval_of (hdp 14 (by decide) (48, .pointer (some ⟨gW, 0 + (k), none⟩)) rfl (by decide))
      exact wpOp_of _ rfl rfl (v_load96 (.tmp 48) _ _ _ rfl e1 (hFW w' hJG).2.2.1 ⟨rfl, id, fun _ => id⟩)
    | 16, hx =>
      obtain rfl : (50, .pointer (some ⟨gO, 0, none⟩)) = x := Option.some.inj hx
      have e1 := o7 a hot
      exact wpOp_of _ rfl rfl (v_f48 (.tmp 7) _ _ rfl e1 ⟨rfl, id, fun _ => id⟩)
    | 17, hx =>
      obtain rfl : (51, .slice (some ⟨gW2, 0, none⟩) N N) = x := Option.some.inj hx
      have e1 := veval_of (hdp 16 (by decide) (50, .pointer (some ⟨gO, 0, none⟩)) rfl (by decide))
      exact wpOp_of _ rfl rfl (v_load45 (.tmp 50) _ _ _ rfl e1 (hFW w' hJG).2.2.2.1 ⟨rfl, id, fun _ => id⟩)
    | 18, hx =>
      obtain rfl : (52, .int .i64 ((k : Nat) : Int)) = x := Option.some.inj hx
      have e1 := o8 a hot
      exact wpOp_of _ rfl rfl (v_move (.tmp 8) _ rfl e1 ⟨rfl, id, fun _ => id⟩)
    | 19, hx =>
      obtain rfl : (53, .pointer (some ⟨gW2, 0 + (k), none⟩)) = x := Option.some.inj hx
      have e1 := veval_of (hdp 17 (by decide) (51, .slice (some ⟨gW2, 0, none⟩) N N) rfl (by decide))
      have e2 := veval_of (hdp 18 (by decide) (52, .int .i64 ((k : Nat) : Int)) rfl (by decide))
      exact wpOp_of _ rfl rfl (v_index45 (.tmp 51) (.tmp 52) _ _ _ _ (k) rfl e1 e2 hkN ⟨rfl, id, fun _ => id⟩)
    | 20, hx =>
      obtain rfl : (54, .slice ua wd uc) = x := Option.some.inj hx
      have e1 := veval_of (hdp 19 (by decide) (53, .pointer (some ⟨gW2, 0 + (k), none⟩)) rfl (by decide))
      exact wpOp_of _ rfl rfl (v_load96 (.tmp 53) _ _ _ rfl e1 (hFW w' hJG).2.2.2.2 ⟨rfl, id, fun _ => id⟩)
    | 21, hx => exact absurd rfl hiq
    | 22, hx =>
      obtain rfl : (56, .pointer (some ⟨gW, 0 + (k), none⟩)) = x := Option.some.inj hx
      have e1 := veval_of (hdp 3 (by decide) (37, .slice (some ⟨gW, 0, none⟩) N N) rfl (by decide))
      have e2 := veval_of (hdp 4 (by decide) (38, .int .i64 ((k : Nat) : Int)) rfl (by decide))
      exact wpOp_of _ rfl rfl (v_index45 (.tmp 37) (.tmp 38) _ _ _ _ (k) rfl e1 e2 hkN ⟨rfl, id, fun _ => id⟩)
    | i + 23, hx => simp [br8L] at hx
  · intro a w' hJ hot hdp
    subst hJ
    have e0 := veval_of (hdp 5 (by decide) (39, .pointer (some ⟨gB, 0, none⟩)) rfl (by decide))
    have e1 := veval_of (hdp 8 (by decide) (42, .int .i64 ((pc : Nat) : Int)) rfl (by decide))
    have e2 := veval_of (hdp 15 (by decide) (49, .slice va wd vc) rfl (by decide))
    have e3 := veval_of (hdp 20 (by decide) (54, .slice ua wd uc) rfl (by decide))
    refine wpOp_of _ rfl rfl (v_call 77 _ _ rfl _ Try.func77 (by kernel_rfl) (by kernel_rfl) #[.pointer (some ⟨gB, 0, none⟩), .int .i64 ((pc : Nat) : Int), .slice va wd vc, .slice ua wd uc] (by simp [e0, e1, e2, e3]) (hC.mono ?_))
    rintro e w2 ⟨p, rfl, hp⟩
    exact ⟨p, rfl, p, rfl, hp⟩
  · intro W p hp
    obtain ⟨g1, ⟨u, g2⟩, g3, g4⟩ := hend p W hp
    have hnd : (((br8L gB gF oF gW gO gW2 cb co cc N k pc va wd vc ua uc).set 21 (55, p)).map Prod.fst).Nodup := by
      rw [show ((br8L gB gF oF gW gO gW2 cb co cc N k pc va wd vc ua uc).set 21 (55, p)).map Prod.fst = [34, 35, 36, 37, 38, 39, 40, 41, 42, 43, 44, 45, 46, 47, 48, 49, 50, 51, 52, 53, 54, 55, 56] from rfl]; decide
    have hs2 : ∀ x ∈ (br8L gB gF oF gW gO gW2 cb co cc N k pc va wd vc ua uc).set 21 (55, p), x.1 < a0.tmps.size := by
      intro x hx
      have hx1 : x.1 ∈ ((br8L gB gF oF gW gO gW2 cb co cc N k pc va wd vc ua uc).set 21 (55, p)).map Prod.fst := List.mem_map_of_mem hx
      rw [show ((br8L gB gF oF gW gO gW2 cb co cc N k pc va wd vc ua uc).set 21 (55, p)).map Prod.fst = [34, 35, 36, 37, 38, 39, 40, 41, 42, 43, 44, 45, 46, 47, 48, 49, 50, 51, 52, 53, 54, 55, 56] from rfl] at hx1
      rw [hz0]
      have : ∀ y ∈ [34, 35, 36, 37, 38, 39, 40, 41, 42, 43, 44, 45, 46, 47, 48, 49, 50, 51, 52, 53, 54, 55, 56], y < 76 := by decide
      exact this _ hx1
    have k1 : (lay a0 ((br8L gB gF oF gW gO gW2 cb co cc N k pc va wd vc ua uc).set 21 (55, p))).tmps[56]? = some (.pointer (some ⟨gW, 0 + (k), none⟩)) := lay_at _ a0 hnd hs2 (56, .pointer (some ⟨gW, 0 + (k), none⟩)) (List.mem_of_getElem? (i := 22) rfl)
    have k2 : (lay a0 ((br8L gB gF oF gW gO gW2 cb co cc N k pc va wd vc ua uc).set 21 (55, p))).tmps[55]? = some p := lay_at _ a0 hnd hs2 (55, p) (List.mem_of_getElem? (i := 21) rfl)
    generalize lay a0 ((br8L gB gF oF gW gO gW2 cb co cc N k pc va wd vc ua uc).set 21 (55, p)) = A at *
    show wpOps Try.prog br8 Q [23] A W
    rw [wpOps_cons]
    exact wpOp_of _ rfl rfl (v_store96 (.tmp 56) (.tmp 55) _ _ p u g1 rfl rfl (veval_of k1) (veval_of k2) g2 g3 g4)
end Go.Proofs.Qxb6500772a
