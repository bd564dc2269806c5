/- Dump's two regions that draw their order: a sum of strings from calls, then an append. -/
import Derived.Test.Qxb6500767aVa
import Derived.Test.Qxb6500767aJc
namespace Go.Qm
open Go Go.RowKit
theorem veval_of {a : Act} {n : Nat} {v : Value} (h : a.tmps[n]? = some v) : a.eval (.tmp n) = v := by
  simp [Act.eval, Array.getD_eq_getD_getElem?, h]
theorem wpOp_of {P : Program} {ops : Array Oper} {Q : Exit → Act → World → Prop} {i : Nat} {K : Act → World → Prop} {a : Act} {w : World} (o : Oper) (ho : ops[i]? = some o) (hg : o.guard = none) (h : o.wp P a w K Q) : wpOp P ops Q i K a w := by
  unfold wpOp
  rw [ho]
  have : Region.wanted o (yielded ops a.tmps) = true := by simp [Region.wanted, hg]
  simp only [this, if_true]
  exact Or.inl h
end Go.Qm
namespace Go.Proofs.Qxb6500767a
open Go Go.RowKit Go.Qm
set_option linter.unusedVariables false
set_option linter.unusedSimpArgs false
section
variable {o : Oper} {a : Act} {w : World} {K : Act → World → Prop} {Q : Exit → Act → World → Prop}
theorem v_move (x : Operand) (v : Value) (ho : o.op = .move x) (hx : a.eval x = v) (h : K (a.put o.dst v) w) : o.wp Try.prog a w K Q := by
  unfold Oper.wp execOp
  simp only [ho, hx]
  exact h
theorem v_assign (x : Operand) (v : Value) (ho : o.op = .assign x) (hx : a.eval x = v) (h : K (a.put o.dst v) w) : o.wp Try.prog a w K Q := by
  unfold Oper.wp execOp
  simp only [ho, hx]
  exact h
theorem v_call1 (f : FuncId) (x : Operand) (ts : Array TypeId) (ho : o.op = .call ⟨.value (.func f), #[x], ts⟩) (fn : Func) (hf : Try.prog.funcs[f]? = some fn)
    (hn : (fn.name == "runtime.NumGoroutine") = false) (hb : fn.body.isNone = false) (v : Value) (hx : a.eval x = v)
    (H : Calls Try.prog f #[v] w fun e w' => ∃ r, e = .returned r ∧ K (a.put o.dst r) w') : o.wp Try.prog a w K Q := by
  have e0 : a.eval (.func f) = .func (.func f) #[] #[] := rfl
  have e1 : (#[] ++ Array.map a.eval #[x] ++ #[] : Array Value) = #[v] := by simp [hx]
  unfold Oper.wp execOp
  simp only [ho]
  simp only [resolve, e0, Deferred.ofValue, invoke, callFunc, Sem.run_bind, Sem.run_pure, Result.andThen_ok, run_program, hf, hn, hb, e1]
  simp only [if_false, Bool.false_eq_true, Sem.run_pure]
  refine H.mono ?_
  rintro e w' ⟨r, rfl, hr⟩
  exact hr
theorem v_add (x y : Operand) {l m n : List UInt8} (ho : o.op = .binOp .add 9 x y 9) (hx : a.eval x = str l) (hy : a.eval y = str m) (hn : n = l ++ m) (hb : n.length ≤ 2 ^ 60) (h : K (a.put o.dst (str n)) w) : o.wp Try.prog a w K Q := by
  subst hn
  have e := str_add (l := l) (m := m) (by simpa using hb)
  have e2 : (binOp .add 9 (str l) (str m)).run Try.prog w = .ok (str (l ++ m)) w := by rw [binOp_string_add, e]; rfl
  unfold Oper.wp execOp
  simp only [ho, hx, hy]
  have e3 : (eqGuard .add 9 x y (str l) (str m)).run Try.prog w = .ok () w := by simp [eqGuard]
  simp only [Sem.run_bind, Sem.run_pure, Result.andThen_ok, e2, e3]
  exact h
theorem fld67 (g : Nat) (w : World) : ∀ k, k < 7 → (Instr.fieldAt 67 (.pointer (some ⟨g, 0, none⟩)) k).run Try.prog w = .ok (.pointer (some ⟨g, k, none⟩)) w
  | 0, _ => by simp [go_sem]
  | 1, _ => by simp [go_sem]
  | 2, _ => by simp [go_sem]
  | 3, _ => by simp [go_sem]
  | 4, _ => by simp [go_sem]
  | 5, _ => by simp [go_sem]
  | 6, _ => by simp [go_sem]
  | k + 7, h => by omega
theorem fld102 (g : Nat) (w : World) : ∀ k, k < 3 → (Instr.fieldAt 102 (.pointer (some ⟨g, 0, none⟩)) k).run Try.prog w = .ok (.pointer (some ⟨g, k, none⟩)) w
  | 0, _ => by simp [go_sem]
  | 1, _ => by simp [go_sem]
  | 2, _ => by simp [go_sem]
  | k + 3, h => by omega
theorem v_field67 (x : Operand) (g k : Nat) (hk : k < 7) (ho : o.op = .fieldAddr 67 x k) (hx : a.eval x = .pointer (some ⟨g, 0, none⟩)) (h : K (a.put o.dst (.pointer (some ⟨g, k, none⟩))) w) : o.wp Try.prog a w K Q := by
  unfold Oper.wp execOp
  simp only [ho, hx, Sem.run_bind, Result.andThen_ok, fld67 g w k hk, Sem.run_pure]
  exact h
theorem v_field102 (x : Operand) (g k : Nat) (hk : k < 3) (ho : o.op = .fieldAddr 102 x k) (hx : a.eval x = .pointer (some ⟨g, 0, none⟩)) (h : K (a.put o.dst (.pointer (some ⟨g, k, none⟩))) w) : o.wp Try.prog a w K Q := by
  unfold Oper.wp execOp
  simp only [ho, hx, Sem.run_bind, Result.andThen_ok, fld102 g w k hk, Sem.run_pure]
  exact h
theorem v_load3 (x : Operand) (g k : Nat) (v : Value) (ho : o.op = .load 3 x) (hx : a.eval x = .pointer (some ⟨g, k, none⟩)) (hc : w.cell? ⟨g, k, none⟩ = some v) (h : K (a.put o.dst v) w) : o.wp Try.prog a w K Q := by
  unfold Oper.wp execOp
  simp only [ho, hx]
  simp [go_sem, hc]
  exact h
theorem v_load9 (x : Operand) (g k : Nat) (v : Value) (ho : o.op = .load 9 x) (hx : a.eval x = .pointer (some ⟨g, k, none⟩)) (hc : w.cell? ⟨g, k, none⟩ = some v) (h : K (a.put o.dst v) w) : o.wp Try.prog a w K Q := by
  unfold Oper.wp execOp
  simp only [ho, hx]
  simp [go_sem, hc]
  exact h
theorem v_load64 (x : Operand) (g k : Nat) (v : Value) (ho : o.op = .load 64 x) (hx : a.eval x = .pointer (some ⟨g, k, none⟩)) (hc : w.cell? ⟨g, k, none⟩ = some v) (h : K (a.put o.dst v) w) : o.wp Try.prog a w K Q := by
  unfold Oper.wp execOp
  simp only [ho, hx]
  simp [go_sem, hc]
  exact h
theorem runlenS (t : TypeId) (p : Option Addr) (n c : Nat) (w : World) : (Builtin.len_ #[64] t #[.slice p n c]).run Try.prog w = .ok (.int .i64 n) w := by
  simp [go_sem, Builtin.len_]
theorem runlenT (t : TypeId) (l : List UInt8) (w : World) : (Builtin.len_ #[9] t #[str l]).run Try.prog w = .ok (.int .i64 (l.length : Nat)) w := by
  simp [go_sem, Builtin.len_]
theorem v_lenS (x : Operand) (p : Option Addr) (n c : Nat) (ho : o.op = .call { callee := .builtin .len, args := #[x], argTypes := #[64] }) (hx : a.eval x = .slice p n c) (h : K (a.put o.dst (.int .i64 n)) w) : o.wp Try.prog a w K Q := by
  unfold Oper.wp execOp
  simp only [ho, resolve, invoke, builtin, Sem.run_bind, Sem.run_pure, Result.andThen_ok, List.map_toArray, List.map_cons, List.map_nil, hx, runlenS]
  exact h
theorem v_lenT (x : Operand) (l : List UInt8) (ho : o.op = .call { callee := .builtin .len, args := #[x], argTypes := #[9] }) (hx : a.eval x = str l) (h : K (a.put o.dst (.int .i64 (l.length : Nat))) w) : o.wp Try.prog a w K Q := by
  unfold Oper.wp execOp
  simp only [ho, resolve, invoke, builtin, Sem.run_bind, Sem.run_pure, Result.andThen_ok, List.map_toArray, List.map_cons, List.map_nil, hx, runlenT]
  exact h
end
def o7 : Array Oper := #[{ dst := some 27, op := Op.move (Operand.tmp 3), type := 64, pos := "mergem.go:216", after := #[], guard := none }, { dst := some 28, op := Op.move (Operand.tmp 4), type := 3, pos := "mergem.go:216", after := #[], guard := none }, { dst := some 29, op := Op.call { callee := Callee.value (Operand.func 72), args := #[Operand.tmp 28], argTypes := #[3] }, type := 9, pos := "mergem.go:216", after := #[{ on := 1, ground := Ground.data }], guard := none }, { dst := some 30, op := Op.binOp BinOp.add 9 (Operand.const (Value.string { data := #[35] })) (Operand.tmp 29) 9, type := 9, pos := "mergem.go:216", after := #[{ on := 2, ground := Ground.data }], guard := none }, { dst := some 31, op := Op.binOp BinOp.add 9 (Operand.tmp 30) (Operand.const (Value.string { data := #[32, 107, 105, 110, 100, 32] })) 9, type := 9, pos := "mergem.go:216", after := #[{ on := 3, ground := Ground.data }], guard := none }, { dst := some 32, op := Op.fieldAddr 67 (Operand.tmp 5) 0, type := 0, pos := "mergem.go:216", after := #[], guard := none }, { dst := some 33, op := Op.load 3 (Operand.tmp 32), type := 3, pos := "mergem.go:216", after := #[{ on := 5, ground := Ground.data }], guard := none }, { dst := some 34, op := Op.call { callee := Callee.value (Operand.func 72), args := #[Operand.tmp 33], argTypes := #[3] }, type := 9, pos := "mergem.go:216", after := #[{ on := 6, ground := Ground.data }, { on := 2, ground := Ground.chain }], guard := none }, { dst := some 35, op := Op.binOp BinOp.add 9 (Operand.tmp 31) (Operand.tmp 34) 9, type := 9, pos := "mergem.go:216", after := #[{ on := 4, ground := Ground.data }, { on := 7, ground := Ground.data }], guard := none }, { dst := some 36, op := Op.binOp BinOp.add 9 (Operand.tmp 35) (Operand.const (Value.string { data := #[32, 109, 111, 100, 101, 32] })) 9, type := 9, pos := "mergem.go:216", after := #[{ on := 8, ground := Ground.data }], guard := none }, { dst := some 37, op := Op.fieldAddr 67 (Operand.tmp 5) 1, type := 0, pos := "mergem.go:216", after := #[], guard := none }, { dst := some 38, op := Op.load 3 (Operand.tmp 37), type := 3, pos := "mergem.go:216", after := #[{ on := 10, ground := Ground.data }], guard := none }, { dst := some 39, op := Op.call { callee := Callee.value (Operand.func 72), args := #[Operand.tmp 38], argTypes := #[3] }, type := 9, pos := "mergem.go:216", after := #[{ on := 11, ground := Ground.data }, { on := 7, ground := Ground.chain }], guard := none }, { dst := some 40, op := Op.binOp BinOp.add 9 (Operand.tmp 36) (Operand.tmp 39) 9, type := 9, pos := "mergem.go:216", after := #[{ on := 9, ground := Ground.data }, { on := 12, ground := Ground.data }], guard := none }, { dst := some 41, op := Op.binOp BinOp.add 9 (Operand.tmp 40) (Operand.const (Value.string { data := #[32, 108, 105, 110, 107, 115, 32] })) 9, type := 9, pos := "mergem.go:216", after := #[{ on := 13, ground := Ground.data }], guard := none }, { dst := some 42, op := Op.fieldAddr 67 (Operand.tmp 5) 2, type := 0, pos := "mergem.go:216", after := #[], guard := none }, { dst := some 43, op := Op.load 3 (Operand.tmp 42), type := 3, pos := "mergem.go:216", after := #[{ on := 15, ground := Ground.data }], guard := none }, { dst := some 44, op := Op.call { callee := Callee.value (Operand.func 72), args := #[Operand.tmp 43], argTypes := #[3] }, type := 9, pos := "mergem.go:216", after := #[{ on := 16, ground := Ground.data }, { on := 12, ground := Ground.chain }], guard := none }, { dst := some 45, op := Op.binOp BinOp.add 9 (Operand.tmp 41) (Operand.tmp 44) 9, type := 9, pos := "mergem.go:216", after := #[{ on := 14, ground := Ground.data }, { on := 17, ground := Ground.data }], guard := none }, { dst := some 46, op := Op.binOp BinOp.add 9 (Operand.tmp 45) (Operand.const (Value.string { data := #[32, 111, 112, 101, 110, 115, 32] })) 9, type := 9, pos := "mergem.go:216", after := #[{ on := 18, ground := Ground.data }], guard := none }, { dst := some 47, op := Op.fieldAddr 67 (Operand.tmp 5) 3, type := 0, pos := "mergem.go:216", after := #[], guard := none }, { dst := some 48, op := Op.load 3 (Operand.tmp 47), type := 3, pos := "mergem.go:216", after := #[{ on := 20, ground := Ground.data }], guard := none }, { dst := some 49, op := Op.call { callee := Callee.value (Operand.func 72), args := #[Operand.tmp 48], argTypes := #[3] }, type := 9, pos := "mergem.go:217", after := #[{ on := 21, ground := Ground.data }, { on := 17, ground := Ground.chain }], guard := none }, { dst := some 50, op := Op.binOp BinOp.add 9 (Operand.tmp 46) (Operand.tmp 49) 9, type := 9, pos := "mergem.go:216", after := #[{ on := 19, ground := Ground.data }, { on := 22, ground := Ground.data }], guard := none }, { dst := some 51, op := Op.binOp BinOp.add 9 (Operand.tmp 50) (Operand.const (Value.string { data := #[32, 112, 97, 114, 101, 110, 116, 32] })) 9, type := 9, pos := "mergem.go:216", after := #[{ on := 23, ground := Ground.data }], guard := none }, { dst := some 52, op := Op.fieldAddr 67 (Operand.tmp 5) 4, type := 0, pos := "mergem.go:216", after := #[], guard := none }, { dst := some 53, op := Op.load 3 (Operand.tmp 52), type := 3, pos := "mergem.go:216", after := #[{ on := 25, ground := Ground.data }], guard := none }, { dst := some 54, op := Op.call { callee := Callee.value (Operand.func 72), args := #[Operand.tmp 53], argTypes := #[3] }, type := 9, pos := "mergem.go:217", after := #[{ on := 26, ground := Ground.data }, { on := 22, ground := Ground.chain }], guard := none }, { dst := some 55, op := Op.binOp BinOp.add 9 (Operand.tmp 51) (Operand.tmp 54) 9, type := 9, pos := "mergem.go:216", after := #[{ on := 24, ground := Ground.data }, { on := 27, ground := Ground.data }], guard := none }, { dst := some 56, op := Op.binOp BinOp.add 9 (Operand.tmp 55) (Operand.const (Value.string { data := #[32, 100, 97, 116, 97, 32] })) 9, type := 9, pos := "mergem.go:216", after := #[{ on := 28, ground := Ground.data }], guard := none }, { dst := some 57, op := Op.fieldAddr 67 (Operand.tmp 5) 5, type := 0, pos := "mergem.go:216", after := #[], guard := none }, { dst := some 58, op := Op.load 64 (Operand.tmp 57), type := 64, pos := "mergem.go:216", after := #[{ on := 30, ground := Ground.data }], guard := none }, { dst := some 59, op := Op.call { callee := Callee.builtin Builtin.len, args := #[Operand.tmp 58], argTypes := #[64] }, type := 3, pos := "mergem.go:216", after := #[{ on := 31, ground := Ground.data }], guard := none }, { dst := some 60, op := Op.call { callee := Callee.value (Operand.func 72), args := #[Operand.tmp 59], argTypes := #[3] }, type := 9, pos := "mergem.go:217", after := #[{ on := 32, ground := Ground.data }, { on := 27, ground := Ground.chain }], guard := none }, { dst := some 61, op := Op.binOp BinOp.add 9 (Operand.tmp 56) (Operand.tmp 60) 9, type := 9, pos := "mergem.go:216", after := #[{ on := 29, ground := Ground.data }, { on := 33, ground := Ground.data }], guard := none }, { dst := some 62, op := Op.binOp BinOp.add 9 (Operand.tmp 61) (Operand.const (Value.string { data := #[58] })) 9, type := 9, pos := "mergem.go:216", after := #[{ on := 34, ground := Ground.data }], guard := none }, { dst := some 63, op := Op.call { callee := Callee.builtin Builtin.append, args := #[Operand.tmp 27, Operand.tmp 62], argTypes := #[64, 9] }, type := 64, pos := "mergem.go:216", after := #[{ on := 0, ground := Ground.data }, { on := 35, ground := Ground.data }, { on := 33, ground := Ground.chain }], guard := none }, { dst := some 3, op := Op.assign (Operand.tmp 63), type := 64, pos := "mergem.go:216", after := #[{ on := 36, ground := Ground.data }, { on := 36, ground := Ground.chain }, { on := 0, ground := Ground.phase }, { on := 1, ground := Ground.phase }, { on := 2, ground := Ground.phase }, { on := 3, ground := Ground.phase }, { on := 4, ground := Ground.phase }, { on := 5, ground := Ground.phase }, { on := 6, ground := Ground.phase }, { on := 7, ground := Ground.phase }, { on := 8, ground := Ground.phase }, { on := 9, ground := Ground.phase }, { on := 10, ground := Ground.phase }, { on := 11, ground := Ground.phase }, { on := 12, ground := Ground.phase }, { on := 13, ground := Ground.phase }, { on := 14, ground := Ground.phase }, { on := 15, ground := Ground.phase }, { on := 16, ground := Ground.phase }, { on := 17, ground := Ground.phase }, { on := 18, ground := Ground.phase }, { on := 19, ground := Ground.phase }, { on := 20, ground := Ground.phase }, { on := 21, ground := Ground.phase }, { on := 22, ground := Ground.phase }, { on := 23, ground := Ground.phase }, { on := 24, ground := Ground.phase }, { on := 25, ground := Ground.phase }, { on := 26, ground := Ground.phase }, { on := 27, ground := Ground.phase }, { on := 28, ground := Ground.phase }, { on := 29, ground := Ground.phase }, { on := 30, ground := Ground.phase }, { on := 31, ground := Ground.phase }, { on := 32, ground := Ground.phase }, { on := 33, ground := Ground.phase }, { on := 34, ground := Ground.phase }, { on := 35, ground := Ground.phase }, { on := 36, ground := Ground.phase }], guard := none }]
def o7L (ov : Value) (gX k nkd : Nat) (nmd : Int) (nlk nop npr : Nat) (da : Option Addr) (dn dc : Nat) (ea : Option Addr) (en ec : Nat) (d0 d1 d2 d3 d4 d5 d6 P1 P2 P3 P4 P5 P6 P7 P8 P9 P10 P11 P12 P13 P14 : List UInt8) : List (Nat × Value) := [(27, ov), (28, (.int .i64 (k : Nat))), (29, (str d0)), (30, (str P1)), (31, (str P2)), (32, (.pointer (some ⟨gX, 0, none⟩) : Value)), (33, .int .i64 (nkd : Nat)), (34, (str d1)), (35, (str P3)), (36, (str P4)), (37, (.pointer (some ⟨gX, 1, none⟩) : Value)), (38, .int .i64 nmd), (39, (str d2)), (40, (str P5)), (41, (str P6)), (42, (.pointer (some ⟨gX, 2, none⟩) : Value)), (43, .int .i64 (nlk : Nat)), (44, (str d3)), (45, (str P7)), (46, (str P8)), (47, (.pointer (some ⟨gX, 3, none⟩) : Value)), (48, .int .i64 (nop : Nat)), (49, (str d4)), (50, (str P9)), (51, (str P10)), (52, (.pointer (some ⟨gX, 4, none⟩) : Value)), (53, .int .i64 (npr : Nat)), (54, (str d5)), (55, (str P11)), (56, (str P12)), (57, (.pointer (some ⟨gX, 5, none⟩) : Value)), (58, .slice da dn dc), (59, (.int .i64 (dn : Nat) : Value)), (60, (str d6)), (61, (str P13)), (62, (str P14))]
theorem o7_chk : chk o7 36 = true := by kernel_rfl
theorem o7_fst (ov : Value) (gX k nkd : Nat) (nmd : Int) (nlk nop npr : Nat) (da : Option Addr) (dn dc : Nat) (ea : Option Addr) (en ec : Nat) (d0 d1 d2 d3 d4 d5 d6 P1 P2 P3 P4 P5 P6 P7 P8 P9 P10 P11 P12 P13 P14 : List UInt8) : (o7L ov gX k nkd nmd nlk nop npr da dn dc ea en ec d0 d1 d2 d3 d4 d5 d6 P1 P2 P3 P4 P5 P6 P7 P8 P9 P10 P11 P12 P13 P14).map Prod.fst = [27, 28, 29, 30, 31, 32, 33, 34, 35, 36, 37, 38, 39, 40, 41, 42, 43, 44, 45, 46, 47, 48, 49, 50, 51, 52, 53, 54, 55, 56, 57, 58, 59, 60, 61, 62] := rfl
set_option maxRecDepth 4000 in
set_option maxHeartbeats 4000000 in
theorem region7_c {Q : Exit → Act → World → Prop} {a0 : Act} {w : World} (ov : Value) (gX k nkd : Nat) (nmd : Int) (nlk nop npr : Nat) (da : Option Addr) (dn dc : Nat) (ea : Option Addr) (en ec : Nat) {d0 d1 d2 d3 d4 d5 d6 P1 P2 P3 P4 P5 P6 P7 P8 P9 P10 P11 P12 P13 P14 : List UInt8} {B : Nat} {xs : List UInt8} (h0 : a0.tmps.size = 112)
    (h3 : a0.tmps[3]? = some ov)
    (h4 : a0.tmps[4]? = some (.int .i64 (k : Nat)))
    (h5 : a0.tmps[5]? = some (.pointer (some ⟨gX, 0, none⟩)))
    (hA : Arr w gX 67 [.int .i64 (nkd : Nat), .int .i64 nmd, .int .i64 (nlk : Nat), .int .i64 (nop : Nat), .int .i64 (npr : Nat), .slice da dn dc, .slice ea en ec])
    (Hd0 : ∀ W, Calls Try.prog 72 #[(.int .i64 (k : Nat))] W fun e w' => e = .returned (str d0) ∧ Keep W w')
    (Hd1 : ∀ W, Calls Try.prog 72 #[(.int .i64 (nkd : Nat))] W fun e w' => e = .returned (str d1) ∧ Keep W w')
    (Hd2 : ∀ W, Calls Try.prog 72 #[(.int .i64 nmd)] W fun e w' => e = .returned (str d2) ∧ Keep W w')
    (Hd3 : ∀ W, Calls Try.prog 72 #[(.int .i64 (nlk : Nat))] W fun e w' => e = .returned (str d3) ∧ Keep W w')
    (Hd4 : ∀ W, Calls Try.prog 72 #[(.int .i64 (nop : Nat))] W fun e w' => e = .returned (str d4) ∧ Keep W w')
    (Hd5 : ∀ W, Calls Try.prog 72 #[(.int .i64 (npr : Nat))] W fun e w' => e = .returned (str d5) ∧ Keep W w')
    (Hd6 : ∀ W, Calls Try.prog 72 #[(.int .i64 (dn : Nat))] W fun e w' => e = .returned (str d6) ∧ Keep W w')
    (hP1 : P1 = ([35] : List UInt8) ++ d0) (bP1 : P1.length ≤ 2 ^ 60)
    (hP2 : P2 = P1 ++ ([32, 107, 105, 110, 100, 32] : List UInt8)) (bP2 : P2.length ≤ 2 ^ 60)
    (hP3 : P3 = P2 ++ d1) (bP3 : P3.length ≤ 2 ^ 60)
    (hP4 : P4 = P3 ++ ([32, 109, 111, 100, 101, 32] : List UInt8)) (bP4 : P4.length ≤ 2 ^ 60)
    (hP5 : P5 = P4 ++ d2) (bP5 : P5.length ≤ 2 ^ 60)
    (hP6 : P6 = P5 ++ ([32, 108, 105, 110, 107, 115, 32] : List UInt8)) (bP6 : P6.length ≤ 2 ^ 60)
    (hP7 : P7 = P6 ++ d3) (bP7 : P7.length ≤ 2 ^ 60)
    (hP8 : P8 = P7 ++ ([32, 111, 112, 101, 110, 115, 32] : List UInt8)) (bP8 : P8.length ≤ 2 ^ 60)
    (hP9 : P9 = P8 ++ d4) (bP9 : P9.length ≤ 2 ^ 60)
    (hP10 : P10 = P9 ++ ([32, 112, 97, 114, 101, 110, 116, 32] : List UInt8)) (bP10 : P10.length ≤ 2 ^ 60)
    (hP11 : P11 = P10 ++ d5) (bP11 : P11.length ≤ 2 ^ 60)
    (hP12 : P12 = P11 ++ ([32, 100, 97, 116, 97, 32] : List UInt8)) (bP12 : P12.length ≤ 2 ^ 60)
    (hP13 : P13 = P12 ++ d6) (bP13 : P13.length ≤ 2 ^ 60)
    (hP14 : P14 = P13 ++ ([58] : List UInt8)) (bP14 : P14.length ≤ 2 ^ 60)
    (hown : Own B 5 w ov (xs.map cb)) (hne : P14 ≠ []) (hb : xs.length + P14.length ≤ 2 ^ 46) (hB : B ≤ w.heap.size)
    (hend : ∀ w1 v' w', Keep w w1 → Own B 5 w' v' ((xs ++ P14).map cb) → w1.grownBy w' ov.ownBlock → Q .normal (((lay a0 (o7L ov gX k nkd nmd nlk nop npr da dn dc ea en ec d0 d1 d2 d3 d4 d5 d6 P1 P2 P3 P4 P5 P6 P7 P8 P9 P10 P11 P12 P13 P14)).put (some 63) v').put (some 3) v') w') :
    (Code.region 7 o7 true).wp Try.prog Q a0 w := by
  have o3 : ∀ a : Act, (∀ t, t ∉ (o7L ov gX k nkd nmd nlk nop npr da dn dc ea en ec d0 d1 d2 d3 d4 d5 d6 P1 P2 P3 P4 P5 P6 P7 P8 P9 P10 P11 P12 P13 P14).map Prod.fst → a.tmps[t]? = a0.tmps[t]?) → a.eval (.tmp 3) = ov := fun a hot => veval_of ((hot 3 (by rw [o7_fst]; decide)).trans h3)
  have o4 : ∀ a : Act, (∀ t, t ∉ (o7L ov gX k nkd nmd nlk nop npr da dn dc ea en ec d0 d1 d2 d3 d4 d5 d6 P1 P2 P3 P4 P5 P6 P7 P8 P9 P10 P11 P12 P13 P14).map Prod.fst → a.tmps[t]? = a0.tmps[t]?) → a.eval (.tmp 4) = (.int .i64 (k : Nat)) := fun a hot => veval_of ((hot 4 (by rw [o7_fst]; decide)).trans h4)
  have o5 : ∀ a : Act, (∀ t, t ∉ (o7L ov gX k nkd nmd nlk nop npr da dn dc ea en ec d0 d1 d2 d3 d4 d5 d6 P1 P2 P3 P4 P5 P6 P7 P8 P9 P10 P11 P12 P13 P14).map Prod.fst → a.tmps[t]? = a0.tmps[t]?) → a.eval (.tmp 5) = (.pointer (some ⟨gX, 0, none⟩)) := fun a hot => veval_of ((hot 5 (by rw [o7_fst]; decide)).trans h5)
  have hC : ∀ W, Keep w W → ∀ j, W.cell? ⟨gX, j, none⟩ = ([.int .i64 (nkd : Nat), .int .i64 nmd, .int .i64 (nlk : Nat), .int .i64 (nop : Nat), .int .i64 (npr : Nat), .slice da dn dc, .slice ea en ec] : List Value)[j]? := fun W hk j => (hA.keep hk).cell j
  refine wp_region_vals (by rfl) 36 (o7L ov gX k nkd nmd nlk nop npr da dn dc ea en ec d0 d1 d2 d3 d4 d5 d6 P1 P2 P3 P4 P5 P6 P7 P8 P9 P10 P11 P12 P13 P14) rfl (by decide) o7_chk (by rw [o7_fst]; decide) ?_ (fun W => Keep w W) (Keep.refl w).drew ?_ ?_
  · intro x hx
    have hx1 : x.1 ∈ (o7L ov gX k nkd nmd nlk nop npr da dn dc ea en ec d0 d1 d2 d3 d4 d5 d6 P1 P2 P3 P4 P5 P6 P7 P8 P9 P10 P11 P12 P13 P14).map Prod.fst := List.mem_map_of_mem hx
    rw [o7_fst] at hx1
    rw [h0]
    have : ∀ y ∈ [27, 28, 29, 30, 31, 32, 33, 34, 35, 36, 37, 38, 39, 40, 41, 42, 43, 44, 45, 46, 47, 48, 49, 50, 51, 52, 53, 54, 55, 56, 57, 58, 59, 60, 61, 62], y < 112 := by decide
    exact this _ hx1
  · intro i x hx a w' hJ hot hdp
    match i, hx with
    | 0, hx =>
      obtain rfl : (27, ov) = x := Option.some.inj hx
      have e1 := o3 a hot
      exact wpOp_of _ rfl rfl (v_move (.tmp 3) _ rfl e1 ⟨rfl, hJ⟩)
    | 1, hx =>
      obtain rfl : (28, (.int .i64 (k : Nat))) = x := Option.some.inj hx
      have e1 := o4 a hot
      exact wpOp_of _ rfl rfl (v_move (.tmp 4) _ rfl e1 ⟨rfl, hJ⟩)
    | 2, hx =>
      obtain rfl : (29, (str d0)) = x := Option.some.inj hx
      have e1 := veval_of (hdp 1 (by decide) (28, (.int .i64 (k : Nat))) rfl)
      refine wpOp_of _ rfl rfl (v_call1 72 (.tmp 28) _ rfl _ Try.func72 (by kernel_rfl) (by kernel_rfl) _ e1 ((Hd0 _).mono ?_))
      rintro x w2 ⟨rfl, hk⟩
      exact ⟨_, rfl, rfl, hJ.trans hk⟩
    | 3, hx =>
      obtain rfl : (30, (str P1)) = x := Option.some.inj hx
      have e1 := veval_of (hdp 2 (by decide) (29, (str d0)) rfl)
      exact wpOp_of _ rfl rfl (v_add (.const (.string ⟨#[35]⟩)) (.tmp 29) (l := ([35] : List UInt8)) (m := d0) rfl rfl e1 hP1 bP1 ⟨rfl, hJ⟩)
    | 4, hx =>
      obtain rfl : (31, (str P2)) = x := Option.some.inj hx
      have e0 := veval_of (hdp 3 (by decide) (30, (str P1)) rfl)
      exact wpOp_of _ rfl rfl (v_add (.tmp 30) (.const (.string ⟨#[32, 107, 105, 110, 100, 32]⟩)) (l := P1) (m := ([32, 107, 105, 110, 100, 32] : List UInt8)) rfl e0 rfl hP2 bP2 ⟨rfl, hJ⟩)
    | 5, hx =>
      obtain rfl : (32, (.pointer (some ⟨gX, 0, none⟩) : Value)) = x := Option.some.inj hx
      have e1 := o5 a hot
      exact wpOp_of _ rfl rfl (v_field67 (.tmp 5) gX 0 (by decide) rfl e1 ⟨rfl, hJ⟩)
    | 6, hx =>
      obtain rfl : (33, .int .i64 (nkd : Nat)) = x := Option.some.inj hx
      have e1 := veval_of (hdp 5 (by decide) (32, (.pointer (some ⟨gX, 0, none⟩) : Value)) rfl)
      exact wpOp_of _ rfl rfl (v_load3 (.tmp 32) gX 0 _ rfl e1 (hC _ hJ 0) ⟨rfl, hJ⟩)
    | 7, hx =>
      obtain rfl : (34, (str d1)) = x := Option.some.inj hx
      have e1 := veval_of (hdp 6 (by decide) (33, .int .i64 (nkd : Nat)) rfl)
      refine wpOp_of _ rfl rfl (v_call1 72 (.tmp 33) _ rfl _ Try.func72 (by kernel_rfl) (by kernel_rfl) _ e1 ((Hd1 _).mono ?_))
      rintro x w2 ⟨rfl, hk⟩
      exact ⟨_, rfl, rfl, hJ.trans hk⟩
    | 8, hx =>
      obtain rfl : (35, (str P3)) = x := Option.some.inj hx
      have e0 := veval_of (hdp 4 (by decide) (31, (str P2)) rfl)
      have e1 := veval_of (hdp 7 (by decide) (34, (str d1)) rfl)
      exact wpOp_of _ rfl rfl (v_add (.tmp 31) (.tmp 34) (l := P2) (m := d1) rfl e0 e1 hP3 bP3 ⟨rfl, hJ⟩)
    | 9, hx =>
      obtain rfl : (36, (str P4)) = x := Option.some.inj hx
      have e0 := veval_of (hdp 8 (by decide) (35, (str P3)) rfl)
      exact wpOp_of _ rfl rfl (v_add (.tmp 35) (.const (.string ⟨#[32, 109, 111, 100, 101, 32]⟩)) (l := P3) (m := ([32, 109, 111, 100, 101, 32] : List UInt8)) rfl e0 rfl hP4 bP4 ⟨rfl, hJ⟩)
    | 10, hx =>
      obtain rfl : (37, (.pointer (some ⟨gX, 1, none⟩) : Value)) = x := Option.some.inj hx
      have e1 := o5 a hot
      exact wpOp_of _ rfl rfl (v_field67 (.tmp 5) gX 1 (by decide) rfl e1 ⟨rfl, hJ⟩)
    | 11, hx =>
      obtain rfl : (38, .int .i64 nmd) = x := Option.some.inj hx
      have e1 := veval_of (hdp 10 (by decide) (37, (.pointer (some ⟨gX, 1, none⟩) : Value)) rfl)
      exact wpOp_of _ rfl rfl (v_load3 (.tmp 37) gX 1 _ rfl e1 (hC _ hJ 1) ⟨rfl, hJ⟩)
    | 12, hx =>
      obtain rfl : (39, (str d2)) = x := Option.some.inj hx
      have e1 := veval_of (hdp 11 (by decide) (38, .int .i64 nmd) rfl)
      refine wpOp_of _ rfl rfl (v_call1 72 (.tmp 38) _ rfl _ Try.func72 (by kernel_rfl) (by kernel_rfl) _ e1 ((Hd2 _).mono ?_))
      rintro x w2 ⟨rfl, hk⟩
      exact ⟨_, rfl, rfl, hJ.trans hk⟩
    | 13, hx =>
      obtain rfl : (40, (str P5)) = x := Option.some.inj hx
      have e0 := veval_of (hdp 9 (by decide) (36, (str P4)) rfl)
      have e1 := veval_of (hdp 12 (by decide) (39, (str d2)) rfl)
      exact wpOp_of _ rfl rfl (v_add (.tmp 36) (.tmp 39) (l := P4) (m := d2) rfl e0 e1 hP5 bP5 ⟨rfl, hJ⟩)
    | 14, hx =>
      obtain rfl : (41, (str P6)) = x := Option.some.inj hx
      have e0 := veval_of (hdp 13 (by decide) (40, (str P5)) rfl)
      exact wpOp_of _ rfl rfl (v_add (.tmp 40) (.const (.string ⟨#[32, 108, 105, 110, 107, 115, 32]⟩)) (l := P5) (m := ([32, 108, 105, 110, 107, 115, 32] : List UInt8)) rfl e0 rfl hP6 bP6 ⟨rfl, hJ⟩)
    | 15, hx =>
      obtain rfl : (42, (.pointer (some ⟨gX, 2, none⟩) : Value)) = x := Option.some.inj hx
      have e1 := o5 a hot
      exact wpOp_of _ rfl rfl (v_field67 (.tmp 5) gX 2 (by decide) rfl e1 ⟨rfl, hJ⟩)
    | 16, hx =>
      obtain rfl : (43, .int .i64 (nlk : Nat)) = x := Option.some.inj hx
      have e1 := veval_of (hdp 15 (by decide) (42, (.pointer (some ⟨gX, 2, none⟩) : Value)) rfl)
      exact wpOp_of _ rfl rfl (v_load3 (.tmp 42) gX 2 _ rfl e1 (hC _ hJ 2) ⟨rfl, hJ⟩)
    | 17, hx =>
      obtain rfl : (44, (str d3)) = x := Option.some.inj hx
      have e1 := veval_of (hdp 16 (by decide) (43, .int .i64 (nlk : Nat)) rfl)
      refine wpOp_of _ rfl rfl (v_call1 72 (.tmp 43) _ rfl _ Try.func72 (by kernel_rfl) (by kernel_rfl) _ e1 ((Hd3 _).mono ?_))
      rintro x w2 ⟨rfl, hk⟩
      exact ⟨_, rfl, rfl, hJ.trans hk⟩
    | 18, hx =>
      obtain rfl : (45, (str P7)) = x := Option.some.inj hx
      have e0 := veval_of (hdp 14 (by decide) (41, (str P6)) rfl)
      have e1 := veval_of (hdp 17 (by decide) (44, (str d3)) rfl)
      exact wpOp_of _ rfl rfl (v_add (.tmp 41) (.tmp 44) (l := P6) (m := d3) rfl e0 e1 hP7 bP7 ⟨rfl, hJ⟩)
    | 19, hx =>
      obtain rfl : (46, (str P8)) = x := Option.some.inj hx
      have e0 := veval_of (hdp 18 (by decide) (45, (str P7)) rfl)
      exact wpOp_of _ rfl rfl (v_add (.tmp 45) (.const (.string ⟨#[32, 111, 112, 101, 110, 115, 32]⟩)) (l := P7) (m := ([32, 111, 112, 101, 110, 115, 32] : List UInt8)) rfl e0 rfl hP8 bP8 ⟨rfl, hJ⟩)
    | 20, hx =>
      obtain rfl : (47, (.pointer (some ⟨gX, 3, none⟩) : Value)) = x := Option.some.inj hx
      have e1 := o5 a hot
      exact wpOp_of _ rfl rfl (v_field67 (.tmp 5) gX 3 (by decide) rfl e1 ⟨rfl, hJ⟩)
    | 21, hx =>
      obtain rfl : (48, .int .i64 (nop : Nat)) = x := Option.some.inj hx
      have e1 := veval_of (hdp 20 (by decide) (47, (.pointer (some ⟨gX, 3, none⟩) : Value)) rfl)
      exact wpOp_of _ rfl rfl (v_load3 (.tmp 47) gX 3 _ rfl e1 (hC _ hJ 3) ⟨rfl, hJ⟩)
    | 22, hx =>
      obtain rfl : (49, (str d4)) = x := Option.some.inj hx
      have e1 := veval_of (hdp 21 (by decide) (48, .int .i64 (nop : Nat)) rfl)
      refine wpOp_of _ rfl rfl (v_call1 72 (.tmp 48) _ rfl _ Try.func72 (by kernel_rfl) (by kernel_rfl) _ e1 ((Hd4 _).mono ?_))
      rintro x w2 ⟨rfl, hk⟩
      exact ⟨_, rfl, rfl, hJ.trans hk⟩
    | 23, hx =>
      obtain rfl : (50, (str P9)) = x := Option.some.inj hx
      have e0 := veval_of (hdp 19 (by decide) (46, (str P8)) rfl)
      have e1 := veval_of (hdp 22 (by decide) (49, (str d4)) rfl)
      exact wpOp_of _ rfl rfl (v_add (.tmp 46) (.tmp 49) (l := P8) (m := d4) rfl e0 e1 hP9 bP9 ⟨rfl, hJ⟩)
    | 24, hx =>
      obtain rfl : (51, (str P10)) = x := Option.some.inj hx
      have e0 := veval_of (hdp 23 (by decide) (50, (str P9)) rfl)
      exact wpOp_of _ rfl rfl (v_add (.tmp 50) (.const (.string ⟨#[32, 112, 97, 114, 101, 110, 116, 32]⟩)) (l := P9) (m := ([32, 112, 97, 114, 101, 110, 116, 32] : List UInt8)) rfl e0 rfl hP10 bP10 ⟨rfl, hJ⟩)
    | 25, hx =>
      obtain rfl : (52, (.pointer (some ⟨gX, 4, none⟩) : Value)) = x := Option.some.inj hx
      have e1 := o5 a hot
      exact wpOp_of _ rfl rfl (v_field67 (.tmp 5) gX 4 (by decide) rfl e1 ⟨rfl, hJ⟩)
    | 26, hx =>
      obtain rfl : (53, .int .i64 (npr : Nat)) = x := Option.some.inj hx
      have e1 := veval_of (hdp 25 (by decide) (52, (.pointer (some ⟨gX, 4, none⟩) : Value)) rfl)
      exact wpOp_of _ rfl rfl (v_load3 (.tmp 52) gX 4 _ rfl e1 (hC _ hJ 4) ⟨rfl, hJ⟩)
    | 27, hx =>
      obtain rfl : (54, (str d5)) = x := Option.some.inj hx
      have e1 := veval_of (hdp 26 (by decide) (53, .int .i64 (npr : Nat)) rfl)
      refine wpOp_of _ rfl rfl (v_call1 72 (.tmp 53) _ rfl _ Try.func72 (by kernel_rfl) (by kernel_rfl) _ e1 ((Hd5 _).mono ?_))
      rintro x w2 ⟨rfl, hk⟩
      exact ⟨_, rfl, rfl, hJ.trans hk⟩
    | 28, hx =>
      obtain rfl : (55, (str P11)) = x := Option.some.inj hx
      have e0 := veval_of (hdp 24 (by decide) (51, (str P10)) rfl)
      have e1 := veval_of (hdp 27 (by decide) (54, (str d5)) rfl)
      exact wpOp_of _ rfl rfl (v_add (.tmp 51) (.tmp 54) (l := P10) (m := d5) rfl e0 e1 hP11 bP11 ⟨rfl, hJ⟩)
    | 29, hx =>
      obtain rfl : (56, (str P12)) = x := Option.some.inj hx
      have e0 := veval_of (hdp 28 (by decide) (55, (str P11)) rfl)
      exact wpOp_of _ rfl rfl (v_add (.tmp 55) (.const (.string ⟨#[32, 100, 97, 116, 97, 32]⟩)) (l := P11) (m := ([32, 100, 97, 116, 97, 32] : List UInt8)) rfl e0 rfl hP12 bP12 ⟨rfl, hJ⟩)
    | 30, hx =>
      obtain rfl : (57, (.pointer (some ⟨gX, 5, none⟩) : Value)) = x := Option.some.inj hx
      have e1 := o5 a hot
      exact wpOp_of _ rfl rfl (v_field67 (.tmp 5) gX 5 (by decide) rfl e1 ⟨rfl, hJ⟩)
    | 31, hx =>
      obtain rfl : (58, .slice da dn dc) = x := Option.some.inj hx
      have e1 := veval_of (hdp 30 (by decide) (57, (.pointer (some ⟨gX, 5, none⟩) : Value)) rfl)
      exact wpOp_of _ rfl rfl (v_load64 (.tmp 57) gX 5 _ rfl e1 (hC _ hJ 5) ⟨rfl, hJ⟩)
    | 32, hx =>
      obtain rfl : (59, (.int .i64 (dn : Nat) : Value)) = x := Option.some.inj hx
      have e1 := veval_of (hdp 31 (by decide) (58, .slice da dn dc) rfl)
      exact wpOp_of _ rfl rfl (v_lenS (.tmp 58) _ _ _ rfl e1 ⟨rfl, hJ⟩)
    | 33, hx =>
      obtain rfl : (60, (str d6)) = x := Option.some.inj hx
      have e1 := veval_of (hdp 32 (by decide) (59, (.int .i64 (dn : Nat) : Value)) rfl)
      refine wpOp_of _ rfl rfl (v_call1 72 (.tmp 59) _ rfl _ Try.func72 (by kernel_rfl) (by kernel_rfl) _ e1 ((Hd6 _).mono ?_))
      rintro x w2 ⟨rfl, hk⟩
      exact ⟨_, rfl, rfl, hJ.trans hk⟩
    | 34, hx =>
      obtain rfl : (61, (str P13)) = x := Option.some.inj hx
      have e0 := veval_of (hdp 29 (by decide) (56, (str P12)) rfl)
      have e1 := veval_of (hdp 33 (by decide) (60, (str d6)) rfl)
      exact wpOp_of _ rfl rfl (v_add (.tmp 56) (.tmp 60) (l := P12) (m := d6) rfl e0 e1 hP13 bP13 ⟨rfl, hJ⟩)
    | 35, hx =>
      obtain rfl : (62, (str P14)) = x := Option.some.inj hx
      have e0 := veval_of (hdp 34 (by decide) (61, (str P13)) rfl)
      exact wpOp_of _ rfl rfl (v_add (.tmp 61) (.const (.string ⟨#[58]⟩)) (l := P13) (m := ([58] : List UInt8)) rfl e0 rfl hP14 bP14 ⟨rfl, hJ⟩)
    | i + 36, hx => simp [o7L] at hx
  · intro w1 hk
    have g1 : (lay a0 (o7L ov gX k nkd nmd nlk nop npr da dn dc ea en ec d0 d1 d2 d3 d4 d5 d6 P1 P2 P3 P4 P5 P6 P7 P8 P9 P10 P11 P12 P13 P14)).tmps[27]? = some ov := lay_at _ a0 (by rw [o7_fst]; decide) (by intro x hx; have hx1 : x.1 ∈ (o7L ov gX k nkd nmd nlk nop npr da dn dc ea en ec d0 d1 d2 d3 d4 d5 d6 P1 P2 P3 P4 P5 P6 P7 P8 P9 P10 P11 P12 P13 P14).map Prod.fst := List.mem_map_of_mem hx; rw [o7_fst] at hx1; rw [h0]; have : ∀ y ∈ [27, 28, 29, 30, 31, 32, 33, 34, 35, 36, 37, 38, 39, 40, 41, 42, 43, 44, 45, 46, 47, 48, 49, 50, 51, 52, 53, 54, 55, 56, 57, 58, 59, 60, 61, 62], y < 112 := (by decide); exact this _ hx1) (27, ov) (by simp [o7L])
    have g2 : (lay a0 (o7L ov gX k nkd nmd nlk nop npr da dn dc ea en ec d0 d1 d2 d3 d4 d5 d6 P1 P2 P3 P4 P5 P6 P7 P8 P9 P10 P11 P12 P13 P14)).tmps[62]? = some (str P14) := lay_at _ a0 (by rw [o7_fst]; decide) (by intro x hx; have hx1 : x.1 ∈ (o7L ov gX k nkd nmd nlk nop npr da dn dc ea en ec d0 d1 d2 d3 d4 d5 d6 P1 P2 P3 P4 P5 P6 P7 P8 P9 P10 P11 P12 P13 P14).map Prod.fst := List.mem_map_of_mem hx; rw [o7_fst] at hx1; rw [h0]; have : ∀ y ∈ [27, 28, 29, 30, 31, 32, 33, 34, 35, 36, 37, 38, 39, 40, 41, 42, 43, 44, 45, 46, 47, 48, 49, 50, 51, 52, 53, 54, 55, 56, 57, 58, 59, 60, 61, 62], y < 112 := (by decide); exact this _ hx1) (62, str P14) (by simp [o7L])
    have hsz : (lay a0 (o7L ov gX k nkd nmd nlk nop npr da dn dc ea en ec d0 d1 d2 d3 d4 d5 d6 P1 P2 P3 P4 P5 P6 P7 P8 P9 P10 P11 P12 P13 P14)).tmps.size = 112 := (lay_size _ _).trans h0
    generalize lay a0 (o7L ov gX k nkd nmd nlk nop npr da dn dc ea en ec d0 d1 d2 d3 d4 d5 d6 P1 P2 P3 P4 P5 P6 P7 P8 P9 P10 P11 P12 P13 P14) = A at *
    show wpOps Try.prog o7 Q [36, 37] A w1
    rw [wpOps_cons]
    refine wpOp_of _ rfl rfl (wp_appStr (.tmp 27) (.tmp 62) rfl (hown.keep hk) hne hb (Nat.le_trans hB hk.size) (veval_of g1) (veval_of g2) ?_)
    intro v' w' ho hg hbk
    show wpOps Try.prog o7 Q [37] (A.put (some 63) v') w'
    rw [wpOps_cons]
    refine wpOp_of _ rfl rfl (v_assign (.tmp 63) v' rfl (veval_of (by rw [vget_put, if_pos rfl, if_pos (by rw [hsz]; decide)])) ?_)
    exact hend w1 v' w' hk ho hg
def o13 : Array Oper := #[{ dst := some 80, op := Op.move (Operand.tmp 3), type := 64, pos := "mergem.go:221", after := #[], guard := none }, { dst := some 81, op := Op.fieldAddr 102 (Operand.tmp 7) 0, type := 0, pos := "mergem.go:221", after := #[], guard := none }, { dst := some 82, op := Op.load 9 (Operand.tmp 81), type := 9, pos := "mergem.go:221", after := #[{ on := 1, ground := Ground.data }], guard := none }, { dst := some 83, op := Op.call { callee := Callee.builtin Builtin.len, args := #[Operand.tmp 82], argTypes := #[9] }, type := 3, pos := "mergem.go:221", after := #[{ on := 2, ground := Ground.data }], guard := none }, { dst := some 84, op := Op.call { callee := Callee.value (Operand.func 72), args := #[Operand.tmp 83], argTypes := #[3] }, type := 9, pos := "mergem.go:221", after := #[{ on := 3, ground := Ground.data }], guard := none }, { dst := some 85, op := Op.binOp BinOp.add 9 (Operand.const (Value.string { data := #[32, 91] })) (Operand.tmp 84) 9, type := 9, pos := "mergem.go:221", after := #[{ on := 4, ground := Ground.data }], guard := none }, { dst := some 86, op := Op.binOp BinOp.add 9 (Operand.tmp 85) (Operand.const (Value.string { data := #[58] })) 9, type := 9, pos := "mergem.go:221", after := #[{ on := 5, ground := Ground.data }], guard := none }, { dst := some 87, op := Op.fieldAddr 102 (Operand.tmp 7) 0, type := 0, pos := "mergem.go:221", after := #[], guard := none }, { dst := some 88, op := Op.load 9 (Operand.tmp 87), type := 9, pos := "mergem.go:221", after := #[{ on := 7, ground := Ground.data }], guard := none }, { dst := some 89, op := Op.binOp BinOp.add 9 (Operand.tmp 86) (Operand.tmp 88) 9, type := 9, pos := "mergem.go:221", after := #[{ on := 6, ground := Ground.data }, { on := 8, ground := Ground.data }], guard := none }, { dst := some 90, op := Op.binOp BinOp.add 9 (Operand.tmp 89) (Operand.const (Value.string { data := #[32] })) 9, type := 9, pos := "mergem.go:221", after := #[{ on := 9, ground := Ground.data }], guard := none }, { dst := some 91, op := Op.fieldAddr 102 (Operand.tmp 7) 1, type := 0, pos := "mergem.go:221", after := #[], guard := none }, { dst := some 92, op := Op.load 9 (Operand.tmp 91), type := 9, pos := "mergem.go:221", after := #[{ on := 11, ground := Ground.data }], guard := none }, { dst := some 93, op := Op.call { callee := Callee.builtin Builtin.len, args := #[Operand.tmp 92], argTypes := #[9] }, type := 3, pos := "mergem.go:221", after := #[{ on := 12, ground := Ground.data }], guard := none }, { dst := some 94, op := Op.call { callee := Callee.value (Operand.func 72), args := #[Operand.tmp 93], argTypes := #[3] }, type := 9, pos := "mergem.go:221", after := #[{ on := 13, ground := Ground.data }, { on := 4, ground := Ground.chain }], guard := none }, { dst := some 95, op := Op.binOp BinOp.add 9 (Operand.tmp 90) (Operand.tmp 94) 9, type := 9, pos := "mergem.go:221", after := #[{ on := 10, ground := Ground.data }, { on := 14, ground := Ground.data }], guard := none }, { dst := some 96, op := Op.binOp BinOp.add 9 (Operand.tmp 95) (Operand.const (Value.string { data := #[58] })) 9, type := 9, pos := "mergem.go:221", after := #[{ on := 15, ground := Ground.data }], guard := none }, { dst := some 97, op := Op.fieldAddr 102 (Operand.tmp 7) 1, type := 0, pos := "mergem.go:221", after := #[], guard := none }, { dst := some 98, op := Op.load 9 (Operand.tmp 97), type := 9, pos := "mergem.go:221", after := #[{ on := 17, ground := Ground.data }], guard := none }, { dst := some 99, op := Op.binOp BinOp.add 9 (Operand.tmp 96) (Operand.tmp 98) 9, type := 9, pos := "mergem.go:221", after := #[{ on := 16, ground := Ground.data }, { on := 18, ground := Ground.data }], guard := none }, { dst := some 100, op := Op.binOp BinOp.add 9 (Operand.tmp 99) (Operand.const (Value.string { data := #[32] })) 9, type := 9, pos := "mergem.go:221", after := #[{ on := 19, ground := Ground.data }], guard := none }, { dst := some 101, op := Op.fieldAddr 102 (Operand.tmp 7) 2, type := 0, pos := "mergem.go:221", after := #[], guard := none }, { dst := some 102, op := Op.load 3 (Operand.tmp 101), type := 3, pos := "mergem.go:221", after := #[{ on := 21, ground := Ground.data }], guard := none }, { dst := some 103, op := Op.call { callee := Callee.value (Operand.func 72), args := #[Operand.tmp 102], argTypes := #[3] }, type := 9, pos := "mergem.go:221", after := #[{ on := 22, ground := Ground.data }, { on := 14, ground := Ground.chain }], guard := none }, { dst := some 104, op := Op.binOp BinOp.add 9 (Operand.tmp 100) (Operand.tmp 103) 9, type := 9, pos := "mergem.go:221", after := #[{ on := 20, ground := Ground.data }, { on := 23, ground := Ground.data }], guard := none }, { dst := some 105, op := Op.binOp BinOp.add 9 (Operand.tmp 104) (Operand.const (Value.string { data := #[93] })) 9, type := 9, pos := "mergem.go:221", after := #[{ on := 24, ground := Ground.data }], guard := none }, { dst := some 106, op := Op.call { callee := Callee.builtin Builtin.append, args := #[Operand.tmp 80, Operand.tmp 105], argTypes := #[64, 9] }, type := 64, pos := "mergem.go:221", after := #[{ on := 0, ground := Ground.data }, { on := 25, ground := Ground.data }, { on := 23, ground := Ground.chain }], guard := none }, { dst := some 3, op := Op.assign (Operand.tmp 106), type := 64, pos := "mergem.go:221", after := #[{ on := 26, ground := Ground.data }, { on := 26, ground := Ground.chain }, { on := 0, ground := Ground.phase }, { on := 1, ground := Ground.phase }, { on := 2, ground := Ground.phase }, { on := 3, ground := Ground.phase }, { on := 4, ground := Ground.phase }, { on := 5, ground := Ground.phase }, { on := 6, ground := Ground.phase }, { on := 7, ground := Ground.phase }, { on := 8, ground := Ground.phase }, { on := 9, ground := Ground.phase }, { on := 10, ground := Ground.phase }, { on := 11, ground := Ground.phase }, { on := 12, ground := Ground.phase }, { on := 13, ground := Ground.phase }, { on := 14, ground := Ground.phase }, { on := 15, ground := Ground.phase }, { on := 16, ground := Ground.phase }, { on := 17, ground := Ground.phase }, { on := 18, ground := Ground.phase }, { on := 19, ground := Ground.phase }, { on := 20, ground := Ground.phase }, { on := 21, ground := Ground.phase }, { on := 22, ground := Ground.phase }, { on := 23, ground := Ground.phase }, { on := 24, ground := Ground.phase }, { on := 25, ground := Ground.phase }, { on := 26, ground := Ground.phase }], guard := none }]
def o13L (ov : Value) (gX : Nat) (ky sp : List UInt8) (en : Nat) (d0 d1 d2 P1 P2 P3 P4 P5 P6 P7 P8 P9 P10 : List UInt8) : List (Nat × Value) := [(80, ov), (81, (.pointer (some ⟨gX, 0, none⟩) : Value)), (82, str ky), (83, (.int .i64 (ky.length : Nat) : Value)), (84, (str d0)), (85, (str P1)), (86, (str P2)), (87, (.pointer (some ⟨gX, 0, none⟩) : Value)), (88, str ky), (89, (str P3)), (90, (str P4)), (91, (.pointer (some ⟨gX, 1, none⟩) : Value)), (92, str sp), (93, (.int .i64 (sp.length : Nat) : Value)), (94, (str d1)), (95, (str P5)), (96, (str P6)), (97, (.pointer (some ⟨gX, 1, none⟩) : Value)), (98, str sp), (99, (str P7)), (100, (str P8)), (101, (.pointer (some ⟨gX, 2, none⟩) : Value)), (102, .int .i64 (en : Nat)), (103, (str d2)), (104, (str P9)), (105, (str P10))]
theorem o13_chk : chk o13 26 = true := by kernel_rfl
theorem o13_fst (ov : Value) (gX : Nat) (ky sp : List UInt8) (en : Nat) (d0 d1 d2 P1 P2 P3 P4 P5 P6 P7 P8 P9 P10 : List UInt8) : (o13L ov gX ky sp en d0 d1 d2 P1 P2 P3 P4 P5 P6 P7 P8 P9 P10).map Prod.fst = [80, 81, 82, 83, 84, 85, 86, 87, 88, 89, 90, 91, 92, 93, 94, 95, 96, 97, 98, 99, 100, 101, 102, 103, 104, 105] := rfl
set_option maxRecDepth 4000 in
set_option maxHeartbeats 4000000 in
theorem region13_c {Q : Exit → Act → World → Prop} {a0 : Act} {w : World} (ov : Value) (gX : Nat) (ky sp : List UInt8) (en : Nat) {d0 d1 d2 P1 P2 P3 P4 P5 P6 P7 P8 P9 P10 : List UInt8} {B : Nat} {xs : List UInt8} (h0 : a0.tmps.size = 112)
    (h3 : a0.tmps[3]? = some ov)
    (h7 : a0.tmps[7]? = some (.pointer (some ⟨gX, 0, none⟩)))
    (hA : Arr w gX 102 [str ky, str sp, .int .i64 (en : Nat)])
    (Hd0 : ∀ W, Calls Try.prog 72 #[(.int .i64 (ky.length : Nat))] W fun e w' => e = .returned (str d0) ∧ Keep W w')
    (Hd1 : ∀ W, Calls Try.prog 72 #[(.int .i64 (sp.length : Nat))] W fun e w' => e = .returned (str d1) ∧ Keep W w')
    (Hd2 : ∀ W, Calls Try.prog 72 #[(.int .i64 (en : Nat))] W fun e w' => e = .returned (str d2) ∧ Keep W w')
    (hP1 : P1 = ([32, 91] : List UInt8) ++ d0) (bP1 : P1.length ≤ 2 ^ 60)
    (hP2 : P2 = P1 ++ ([58] : List UInt8)) (bP2 : P2.length ≤ 2 ^ 60)
    (hP3 : P3 = P2 ++ ky) (bP3 : P3.length ≤ 2 ^ 60)
    (hP4 : P4 = P3 ++ ([32] : List UInt8)) (bP4 : P4.length ≤ 2 ^ 60)
    (hP5 : P5 = P4 ++ d1) (bP5 : P5.length ≤ 2 ^ 60)
    (hP6 : P6 = P5 ++ ([58] : List UInt8)) (bP6 : P6.length ≤ 2 ^ 60)
    (hP7 : P7 = P6 ++ sp) (bP7 : P7.length ≤ 2 ^ 60)
    (hP8 : P8 = P7 ++ ([32] : List UInt8)) (bP8 : P8.length ≤ 2 ^ 60)
    (hP9 : P9 = P8 ++ d2) (bP9 : P9.length ≤ 2 ^ 60)
    (hP10 : P10 = P9 ++ ([93] : List UInt8)) (bP10 : P10.length ≤ 2 ^ 60)
    (hown : Own B 5 w ov (xs.map cb)) (hne : P10 ≠ []) (hb : xs.length + P10.length ≤ 2 ^ 46) (hB : B ≤ w.heap.size)
    (hend : ∀ w1 v' w', Keep w w1 → Own B 5 w' v' ((xs ++ P10).map cb) → w1.grownBy w' ov.ownBlock → Q .normal (((lay a0 (o13L ov gX ky sp en d0 d1 d2 P1 P2 P3 P4 P5 P6 P7 P8 P9 P10)).put (some 106) v').put (some 3) v') w') :
    (Code.region 13 o13 true).wp Try.prog Q a0 w := by
  have o3 : ∀ a : Act, (∀ t, t ∉ (o13L ov gX ky sp en d0 d1 d2 P1 P2 P3 P4 P5 P6 P7 P8 P9 P10).map Prod.fst → a.tmps[t]? = a0.tmps[t]?) → a.eval (.tmp 3) = ov := fun a hot => veval_of ((hot 3 (by rw [o13_fst]; decide)).trans h3)
  have o7 : ∀ a : Act, (∀ t, t ∉ (o13L ov gX ky sp en d0 d1 d2 P1 P2 P3 P4 P5 P6 P7 P8 P9 P10).map Prod.fst → a.tmps[t]? = a0.tmps[t]?) → a.eval (.tmp 7) = (.pointer (some ⟨gX, 0, none⟩)) := fun a hot => veval_of ((hot 7 (by rw [o13_fst]; decide)).trans h7)
  have hC : ∀ W, Keep w W → ∀ j, W.cell? ⟨gX, j, none⟩ = ([str ky, str sp, .int .i64 (en : Nat)] : List Value)[j]? := fun W hk j => (hA.keep hk).cell j
  refine wp_region_vals (by rfl) 26 (o13L ov gX ky sp en d0 d1 d2 P1 P2 P3 P4 P5 P6 P7 P8 P9 P10) rfl (by decide) o13_chk (by rw [o13_fst]; decide) ?_ (fun W => Keep w W) (Keep.refl w).drew ?_ ?_
  · intro x hx
    have hx1 : x.1 ∈ (o13L ov gX ky sp en d0 d1 d2 P1 P2 P3 P4 P5 P6 P7 P8 P9 P10).map Prod.fst := List.mem_map_of_mem hx
    rw [o13_fst] at hx1
    rw [h0]
    have : ∀ y ∈ [80, 81, 82, 83, 84, 85, 86, 87, 88, 89, 90, 91, 92, 93, 94, 95, 96, 97, 98, 99, 100, 101, 102, 103, 104, 105], y < 112 := by decide
    exact this _ hx1
  · intro i x hx a w' hJ hot hdp
    match i, hx with
    | 0, hx =>
      obtain rfl : (80, ov) = x := Option.some.inj hx
      have e1 := o3 a hot
      exact wpOp_of _ rfl rfl (v_move (.tmp 3) _ rfl e1 ⟨rfl, hJ⟩)
    | 1, hx =>
      obtain rfl : (81, (.pointer (some ⟨gX, 0, none⟩) : Value)) = x := Option.some.inj hx
      have e1 := o7 a hot
      exact wpOp_of _ rfl rfl (v_field102 (.tmp 7) gX 0 (by decide) rfl e1 ⟨rfl, hJ⟩)
    | 2, hx =>
      obtain rfl : (82, str ky) = x := Option.some.inj hx
      have e1 := veval_of (hdp 1 (by decide) (81, (.pointer (some ⟨gX, 0, none⟩) : Value)) rfl)
      exact wpOp_of _ rfl rfl (v_load9 (.tmp 81) gX 0 _ rfl e1 (hC _ hJ 0) ⟨rfl, hJ⟩)
    | 3, hx =>
      obtain rfl : (83, (.int .i64 (ky.length : Nat) : Value)) = x := Option.some.inj hx
      have e1 := veval_of (hdp 2 (by decide) (82, str ky) rfl)
      exact wpOp_of _ rfl rfl (v_lenT (.tmp 82) ky rfl e1 ⟨rfl, hJ⟩)
    | 4, hx =>
      obtain rfl : (84, (str d0)) = x := Option.some.inj hx
      have e1 := veval_of (hdp 3 (by decide) (83, (.int .i64 (ky.length : Nat) : Value)) rfl)
      refine wpOp_of _ rfl rfl (v_call1 72 (.tmp 83) _ rfl _ Try.func72 (by kernel_rfl) (by kernel_rfl) _ e1 ((Hd0 _).mono ?_))
      rintro x w2 ⟨rfl, hk⟩
      exact ⟨_, rfl, rfl, hJ.trans hk⟩
    | 5, hx =>
      obtain rfl : (85, (str P1)) = x := Option.some.inj hx
      have e1 := veval_of (hdp 4 (by decide) (84, (str d0)) rfl)
      exact wpOp_of _ rfl rfl (v_add (.const (.string ⟨#[32, 91]⟩)) (.tmp 84) (l := ([32, 91] : List UInt8)) (m := d0) rfl rfl e1 hP1 bP1 ⟨rfl, hJ⟩)
    | 6, hx =>
      obtain rfl : (86, (str P2)) = x := Option.some.inj hx
      have e0 := veval_of (hdp 5 (by decide) (85, (str P1)) rfl)
      exact wpOp_of _ rfl rfl (v_add (.tmp 85) (.const (.string ⟨#[58]⟩)) (l := P1) (m := ([58] : List UInt8)) rfl e0 rfl hP2 bP2 ⟨rfl, hJ⟩)
    | 7, hx =>
      obtain rfl : (87, (.pointer (some ⟨gX, 0, none⟩) : Value)) = x := Option.some.inj hx
      have e1 := o7 a hot
      exact wpOp_of _ rfl rfl (v_field102 (.tmp 7) gX 0 (by decide) rfl e1 ⟨rfl, hJ⟩)
    | 8, hx =>
      obtain rfl : (88, str ky) = x := Option.some.inj hx
      have e1 := veval_of (hdp 7 (by decide) (87, (.pointer (some ⟨gX, 0, none⟩) : Value)) rfl)
      exact wpOp_of _ rfl rfl (v_load9 (.tmp 87) gX 0 _ rfl e1 (hC _ hJ 0) ⟨rfl, hJ⟩)
    | 9, hx =>
      obtain rfl : (89, (str P3)) = x := Option.some.inj hx
      have e0 := veval_of (hdp 6 (by decide) (86, (str P2)) rfl)
      have e1 := veval_of (hdp 8 (by decide) (88, str ky) rfl)
      exact wpOp_of _ rfl rfl (v_add (.tmp 86) (.tmp 88) (l := P2) (m := ky) rfl e0 e1 hP3 bP3 ⟨rfl, hJ⟩)
    | 10, hx =>
      obtain rfl : (90, (str P4)) = x := Option.some.inj hx
      have e0 := veval_of (hdp 9 (by decide) (89, (str P3)) rfl)
      exact wpOp_of _ rfl rfl (v_add (.tmp 89) (.const (.string ⟨#[32]⟩)) (l := P3) (m := ([32] : List UInt8)) rfl e0 rfl hP4 bP4 ⟨rfl, hJ⟩)
    | 11, hx =>
      obtain rfl : (91, (.pointer (some ⟨gX, 1, none⟩) : Value)) = x := Option.some.inj hx
      have e1 := o7 a hot
      exact wpOp_of _ rfl rfl (v_field102 (.tmp 7) gX 1 (by decide) rfl e1 ⟨rfl, hJ⟩)
    | 12, hx =>
      obtain rfl : (92, str sp) = x := Option.some.inj hx
      have e1 := veval_of (hdp 11 (by decide) (91, (.pointer (some ⟨gX, 1, none⟩) : Value)) rfl)
      exact wpOp_of _ rfl rfl (v_load9 (.tmp 91) gX 1 _ rfl e1 (hC _ hJ 1) ⟨rfl, hJ⟩)
    | 13, hx =>
      obtain rfl : (93, (.int .i64 (sp.length : Nat) : Value)) = x := Option.some.inj hx
      have e1 := veval_of (hdp 12 (by decide) (92, str sp) rfl)
      exact wpOp_of _ rfl rfl (v_lenT (.tmp 92) sp rfl e1 ⟨rfl, hJ⟩)
    | 14, hx =>
      obtain rfl : (94, (str d1)) = x := Option.some.inj hx
      have e1 := veval_of (hdp 13 (by decide) (93, (.int .i64 (sp.length : Nat) : Value)) rfl)
      refine wpOp_of _ rfl rfl (v_call1 72 (.tmp 93) _ rfl _ Try.func72 (by kernel_rfl) (by kernel_rfl) _ e1 ((Hd1 _).mono ?_))
      rintro x w2 ⟨rfl, hk⟩
      exact ⟨_, rfl, rfl, hJ.trans hk⟩
    | 15, hx =>
      obtain rfl : (95, (str P5)) = x := Option.some.inj hx
      have e0 := veval_of (hdp 10 (by decide) (90, (str P4)) rfl)
      have e1 := veval_of (hdp 14 (by decide) (94, (str d1)) rfl)
      exact wpOp_of _ rfl rfl (v_add (.tmp 90) (.tmp 94) (l := P4) (m := d1) rfl e0 e1 hP5 bP5 ⟨rfl, hJ⟩)
    | 16, hx =>
      obtain rfl : (96, (str P6)) = x := Option.some.inj hx
      have e0 := veval_of (hdp 15 (by decide) (95, (str P5)) rfl)
      exact wpOp_of _ rfl rfl (v_add (.tmp 95) (.const (.string ⟨#[58]⟩)) (l := P5) (m := ([58] : List UInt8)) rfl e0 rfl hP6 bP6 ⟨rfl, hJ⟩)
    | 17, hx =>
      obtain rfl : (97, (.pointer (some ⟨gX, 1, none⟩) : Value)) = x := Option.some.inj hx
      have e1 := o7 a hot
      exact wpOp_of _ rfl rfl (v_field102 (.tmp 7) gX 1 (by decide) rfl e1 ⟨rfl, hJ⟩)
    | 18, hx =>
      obtain rfl : (98, str sp) = x := Option.some.inj hx
      have e1 := veval_of (hdp 17 (by decide) (97, (.pointer (some ⟨gX, 1, none⟩) : Value)) rfl)
      exact wpOp_of _ rfl rfl (v_load9 (.tmp 97) gX 1 _ rfl e1 (hC _ hJ 1) ⟨rfl, hJ⟩)
    | 19, hx =>
      obtain rfl : (99, (str P7)) = x := Option.some.inj hx
      have e0 := veval_of (hdp 16 (by decide) (96, (str P6)) rfl)
      have e1 := veval_of (hdp 18 (by decide) (98, str sp) rfl)
      exact wpOp_of _ rfl rfl (v_add (.tmp 96) (.tmp 98) (l := P6) (m := sp) rfl e0 e1 hP7 bP7 ⟨rfl, hJ⟩)
    | 20, hx =>
      obtain rfl : (100, (str P8)) = x := Option.some.inj hx
      have e0 := veval_of (hdp 19 (by decide) (99, (str P7)) rfl)
      exact wpOp_of _ rfl rfl (v_add (.tmp 99) (.const (.string ⟨#[32]⟩)) (l := P7) (m := ([32] : List UInt8)) rfl e0 rfl hP8 bP8 ⟨rfl, hJ⟩)
    | 21, hx =>
      obtain rfl : (101, (.pointer (some ⟨gX, 2, none⟩) : Value)) = x := Option.some.inj hx
      have e1 := o7 a hot
      exact wpOp_of _ rfl rfl (v_field102 (.tmp 7) gX 2 (by decide) rfl e1 ⟨rfl, hJ⟩)
    | 22, hx =>
      obtain rfl : (102, .int .i64 (en : Nat)) = x := Option.some.inj hx
      have e1 := veval_of (hdp 21 (by decide) (101, (.pointer (some ⟨gX, 2, none⟩) : Value)) rfl)
      exact wpOp_of _ rfl rfl (v_load3 (.tmp 101) gX 2 _ rfl e1 (hC _ hJ 2) ⟨rfl, hJ⟩)
    | 23, hx =>
      obtain rfl : (103, (str d2)) = x := Option.some.inj hx
      have e1 := veval_of (hdp 22 (by decide) (102, .int .i64 (en : Nat)) rfl)
      refine wpOp_of _ rfl rfl (v_call1 72 (.tmp 102) _ rfl _ Try.func72 (by kernel_rfl) (by kernel_rfl) _ e1 ((Hd2 _).mono ?_))
      rintro x w2 ⟨rfl, hk⟩
      exact ⟨_, rfl, rfl, hJ.trans hk⟩
    | 24, hx =>
      obtain rfl : (104, (str P9)) = x := Option.some.inj hx
      have e0 := veval_of (hdp 20 (by decide) (100, (str P8)) rfl)
      have e1 := veval_of (hdp 23 (by decide) (103, (str d2)) rfl)
      exact wpOp_of _ rfl rfl (v_add (.tmp 100) (.tmp 103) (l := P8) (m := d2) rfl e0 e1 hP9 bP9 ⟨rfl, hJ⟩)
    | 25, hx =>
      obtain rfl : (105, (str P10)) = x := Option.some.inj hx
      have e0 := veval_of (hdp 24 (by decide) (104, (str P9)) rfl)
      exact wpOp_of _ rfl rfl (v_add (.tmp 104) (.const (.string ⟨#[93]⟩)) (l := P9) (m := ([93] : List UInt8)) rfl e0 rfl hP10 bP10 ⟨rfl, hJ⟩)
    | i + 26, hx => simp [o13L] at hx
  · intro w1 hk
    have g1 : (lay a0 (o13L ov gX ky sp en d0 d1 d2 P1 P2 P3 P4 P5 P6 P7 P8 P9 P10)).tmps[80]? = some ov := lay_at _ a0 (by rw [o13_fst]; decide) (by intro x hx; have hx1 : x.1 ∈ (o13L ov gX ky sp en d0 d1 d2 P1 P2 P3 P4 P5 P6 P7 P8 P9 P10).map Prod.fst := List.mem_map_of_mem hx; rw [o13_fst] at hx1; rw [h0]; have : ∀ y ∈ [80, 81, 82, 83, 84, 85, 86, 87, 88, 89, 90, 91, 92, 93, 94, 95, 96, 97, 98, 99, 100, 101, 102, 103, 104, 105], y < 112 := (by decide); exact this _ hx1) (80, ov) (by simp [o13L])
    have g2 : (lay a0 (o13L ov gX ky sp en d0 d1 d2 P1 P2 P3 P4 P5 P6 P7 P8 P9 P10)).tmps[105]? = some (str P10) := lay_at _ a0 (by rw [o13_fst]; decide) (by intro x hx; have hx1 : x.1 ∈ (o13L ov gX ky sp en d0 d1 d2 P1 P2 P3 P4 P5 P6 P7 P8 P9 P10).map Prod.fst := List.mem_map_of_mem hx; rw [o13_fst] at hx1; rw [h0]; have : ∀ y ∈ [80, 81, 82, 83, 84, 85, 86, 87, 88, 89, 90, 91, 92, 93, 94, 95, 96, 97, 98, 99, 100, 101, 102, 103, 104, 105], y < 112 := (by decide); exact this _ hx1) (105, str P10) (by simp [o13L])
    have hsz : (lay a0 (o13L ov gX ky sp en d0 d1 d2 P1 P2 P3 P4 P5 P6 P7 P8 P9 P10)).tmps.size = 112 := (lay_size _ _).trans h0
    generalize lay a0 (o13L ov gX ky sp en d0 d1 d2 P1 P2 P3 P4 P5 P6 P7 P8 P9 P10) = A at *
    show wpOps Try.prog o13 Q [26, 27] A w1
    rw [wpOps_cons]
    refine wpOp_of _ rfl rfl (wp_appStr (.tmp 80) (.tmp 105) rfl (hown.keep hk) hne hb (Nat.le_trans hB hk.size) (veval_of g1) (veval_of g2) ?_)
    intro v' w' ho hg hbk
    show wpOps Try.prog o13 Q [27] (A.put (some 106) v') w'
    rw [wpOps_cons]
    refine wpOp_of _ rfl rfl (v_assign (.tmp 106) v' rfl (veval_of (by rw [vget_put, if_pos rfl, if_pos (by rw [hsz]; decide)])) ?_)
    exact hend w1 v' w' hk ho hg
end Go.Proofs.Qxb6500767a
