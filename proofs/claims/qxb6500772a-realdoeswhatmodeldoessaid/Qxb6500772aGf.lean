/- blastlaw: the laws of step's operations. -/
import Derived.Test.Qxb6500772aGe
import Derived.Test.Qxb6500772aHf
import Derived.Test.Qxb6500772aEc
namespace Go.Proofs.Qxb6500772a
open Go Go.RowKit Go.Qm
set_option linter.unusedVariables false
set_option linter.unusedSimpArgs false
section
variable {o : Oper} {a : Act} {w : World} {K : Act → World → Prop} {Q : Exit → Act → World → Prop}
set_option maxRecDepth 8000 in
theorem v_f78 (x : Operand) (i g k : Nat) (ho : o.op = .fieldAddr 78 x i) (hi : (i = 0 ∧ k = 0) ∨ (i = 1 ∧ k = 1) ∨ (i = 2 ∧ k = 2) ∨ (i = 3 ∧ k = 3) ∨ (i = 4 ∧ k = 10) ∨ (i = 5 ∧ k = 11) ∨ (i = 6 ∧ k = 12) ∨ (i = 7 ∧ k = 13)) (hx : a.eval x = .pointer (some ⟨g, 0, none⟩)) (h : K (a.put o.dst (.pointer (some ⟨g, k, none⟩))) w) : o.wp Try.prog a w K Q := by
  unfold Oper.wp execOp
  simp only [ho, hx]
  rcases hi with ⟨rfl, rfl⟩ | ⟨rfl, rfl⟩ | ⟨rfl, rfl⟩ | ⟨rfl, rfl⟩ | ⟨rfl, rfl⟩ | ⟨rfl, rfl⟩ | ⟨rfl, rfl⟩ | ⟨rfl, rfl⟩ <;> (simp [go_sem]; exact h)
set_option maxRecDepth 8000 in
theorem v_f81 (x : Operand) (i g k : Nat) (ho : o.op = .fieldAddr 81 x i) (hi : (i = 0 ∧ k = 0) ∨ (i = 1 ∧ k = 1) ∨ (i = 2 ∧ k = 2) ∨ (i = 3 ∧ k = 3) ∨ (i = 4 ∧ k = 4)) (hx : a.eval x = .pointer (some ⟨g, 0, none⟩)) (h : K (a.put o.dst (.pointer (some ⟨g, k, none⟩))) w) : o.wp Try.prog a w K Q := by
  unfold Oper.wp execOp
  simp only [ho, hx]
  rcases hi with ⟨rfl, rfl⟩ | ⟨rfl, rfl⟩ | ⟨rfl, rfl⟩ | ⟨rfl, rfl⟩ | ⟨rfl, rfl⟩ <;> (simp [go_sem]; exact h)
theorem v_load24 (x : Operand) (g k : Nat) (v : Value) (ho : o.op = .load 24 x) (hx : a.eval x = .pointer (some ⟨g, k, none⟩)) (hc : w.cell? ⟨g, k, none⟩ = some v) (h : K (a.put o.dst v) w) : o.wp Try.prog a w K Q := by
  unfold Oper.wp execOp
  simp only [ho, hx]
  simp [go_sem, hc]
  exact h
theorem v_store24 (x y : Operand) (g k : Nat) (b : Option Addr) (m c : Nat) (u : Value) (ho : o.op = .store 24 x y) (hd : o.dst = none) (hx : a.eval x = .pointer (some ⟨g, k, none⟩)) (hy : a.eval y = .slice b m c) (hc : w.cell? ⟨g, k, none⟩ = some u) (hz : w.frozen? ⟨g, k, none⟩ = false) (h : K a (w.setCell ⟨g, k, none⟩ (.slice b m c))) : o.wp Try.prog a w K Q := by
  unfold Oper.wp execOp
  simp only [ho, hx, hy]
  simp [go_sem, hc, hz, hd, Act.put]
  exact h
theorem v_load29 (x : Operand) (g k : Nat) (v : Value) (ho : o.op = .load 29 x) (hx : a.eval x = .pointer (some ⟨g, k, none⟩)) (hc : w.cell? ⟨g, k, none⟩ = some v) (h : K (a.put o.dst v) w) : o.wp Try.prog a w K Q := by
  unfold Oper.wp execOp
  simp only [ho, hx]
  simp [go_sem, hc]
  exact h
theorem v_store29 (x y : Operand) (g k : Nat) (b : Option Addr) (m c : Nat) (u : Value) (ho : o.op = .store 29 x y) (hd : o.dst = none) (hx : a.eval x = .pointer (some ⟨g, k, none⟩)) (hy : a.eval y = .slice b m c) (hc : w.cell? ⟨g, k, none⟩ = some u) (hz : w.frozen? ⟨g, k, none⟩ = false) (h : K a (w.setCell ⟨g, k, none⟩ (.slice b m c))) : o.wp Try.prog a w K Q := by
  unfold Oper.wp execOp
  simp only [ho, hx, hy]
  simp [go_sem, hc, hz, hd, Act.put]
  exact h
theorem v_load25 (x : Operand) (g k : Nat) (v : Value) (ho : o.op = .load 25 x) (hx : a.eval x = .pointer (some ⟨g, k, none⟩)) (hc : w.cell? ⟨g, k, none⟩ = some v) (h : K (a.put o.dst v) w) : o.wp Try.prog a w K Q := by
  unfold Oper.wp execOp
  simp only [ho, hx]
  simp [go_sem, hc]
  exact h
theorem v_store25 (x y : Operand) (g k : Nat) (b : Option Addr) (m c : Nat) (u : Value) (ho : o.op = .store 25 x y) (hd : o.dst = none) (hx : a.eval x = .pointer (some ⟨g, k, none⟩)) (hy : a.eval y = .slice b m c) (hc : w.cell? ⟨g, k, none⟩ = some u) (hz : w.frozen? ⟨g, k, none⟩ = false) (h : K a (w.setCell ⟨g, k, none⟩ (.slice b m c))) : o.wp Try.prog a w K Q := by
  unfold Oper.wp execOp
  simp only [ho, hx, hy]
  simp [go_sem, hc, hz, hd, Act.put]
  exact h
theorem v_load76 (x : Operand) (g k : Nat) (v : Value) (ho : o.op = .load 76 x) (hx : a.eval x = .pointer (some ⟨g, k, none⟩)) (hc : w.cell? ⟨g, k, none⟩ = some v) (h : K (a.put o.dst v) w) : o.wp Try.prog a w K Q := by
  unfold Oper.wp execOp
  simp only [ho, hx]
  simp [go_sem, hc]
  exact h
theorem v_store76 (x y : Operand) (g k : Nat) (b : Option Addr) (m c : Nat) (u : Value) (ho : o.op = .store 76 x y) (hd : o.dst = none) (hx : a.eval x = .pointer (some ⟨g, k, none⟩)) (hy : a.eval y = .slice b m c) (hc : w.cell? ⟨g, k, none⟩ = some u) (hz : w.frozen? ⟨g, k, none⟩ = false) (h : K a (w.setCell ⟨g, k, none⟩ (.slice b m c))) : o.wp Try.prog a w K Q := by
  unfold Oper.wp execOp
  simp only [ho, hx, hy]
  simp [go_sem, hc, hz, hd, Act.put]
  exact h
theorem v_len29 (t : Nat) (b : Option Addr) (m c : Nat) (ho : o.op = .call { callee := .builtin .len, args := #[.tmp t], argTypes := #[29] }) (hty : o.type = 3) (hx : a.tmps[t]? = some (.slice b m c)) (h : K (a.put o.dst (.int .i64 ((m : Nat) : Int))) w) : o.wp Try.prog a w K Q := by
  unfold Oper.wp execOp
  simp only [ho]
  simp [go_sem, hx, hty]
  exact h
theorem v_len25 (t : Nat) (b : Option Addr) (m c : Nat) (ho : o.op = .call { callee := .builtin .len, args := #[.tmp t], argTypes := #[25] }) (hty : o.type = 3) (hx : a.tmps[t]? = some (.slice b m c)) (h : K (a.put o.dst (.int .i64 ((m : Nat) : Int))) w) : o.wp Try.prog a w K Q := by
  unfold Oper.wp execOp
  simp only [ho]
  simp [go_sem, hx, hty]
  exact h
set_option maxRecDepth 4000 in
theorem v_idx29 (x y : Operand) (g m c k : Nat) (ho : o.op = .indexAddr 29 x y) (hx : a.eval x = .slice (some ⟨g, 0, none⟩) m c) (hy : a.eval y = .int .i64 (k : Nat)) (hk : k < m) (h : K (a.put o.dst (.pointer (some ⟨g, k * 7, none⟩))) w) : o.wp Try.prog a w K Q := by
  have h1 : (k : Int) < m := by omega
  have h2 : (0 : Int) ≤ k := by omega
  unfold Oper.wp execOp
  simp only [ho, hx, hy]
  simp [go_sem, h1, h2]
  exact h
set_option maxRecDepth 4000 in
theorem v_idx25 (x y : Operand) (g m c k : Nat) (ho : o.op = .indexAddr 25 x y) (hx : a.eval x = .slice (some ⟨g, 0, none⟩) m c) (hy : a.eval y = .int .i64 (k : Nat)) (hk : k < m) (h : K (a.put o.dst (.pointer (some ⟨g, k * 8, none⟩))) w) : o.wp Try.prog a w K Q := by
  have h1 : (k : Int) < m := by omega
  have h2 : (0 : Int) ≤ k := by omega
  unfold Oper.wp execOp
  simp only [ho, hx, hy]
  simp [go_sem, h1, h2]
  exact h
theorem v_bz29 (ho : o.op = .buildSlice 29 1 #[(0, .const (.agg #[.int .i64 0, .int .i64 0, .int .i64 0, .int .u64 0, .int .i64 0, .int .i64 0, .slice none 0 0]))]) (h : K (a.put o.dst (.slice (some ⟨w.heap.size, 0, none⟩) 1 1)) (w.alloc (.cells #[.int .i64 0, .int .i64 0, .int .i64 0, .int .u64 0, .int .i64 0, .int .i64 0, .slice none 0 0] 31))) : o.wp Try.prog a w K Q := by
  unfold Oper.wp execOp
  simp only [ho]
  simp [go_sem]
  exact h
theorem v_al31 (ho : o.op = .alloc 31) (h : K (a.put o.dst (.pointer (some ⟨w.heap.size, 0, none⟩))) (w.alloc (.cells #[.int .i64 0, .int .i64 0, .int .i64 0, .int .u64 0, .int .i64 0, .int .i64 0, .slice none 0 0] 31))) : o.wp Try.prog a w K Q := by
  unfold Oper.wp execOp
  simp only [ho]
  simp [go_sem]
  exact h
theorem v_bz25 (ho : o.op = .buildSlice 25 1 #[(0, .const (.agg #[.int .i64 0, .int .i64 0, .int .i64 0, .int .i64 0, .int .i64 0, .slice none 0 0, .slice none 0 0, .slice none 0 0]))]) (h : K (a.put o.dst (.slice (some ⟨w.heap.size, 0, none⟩) 1 1)) (w.alloc (.cells #[.int .i64 0, .int .i64 0, .int .i64 0, .int .i64 0, .int .i64 0, .slice none 0 0, .slice none 0 0, .slice none 0 0] 109))) : o.wp Try.prog a w K Q := by
  unfold Oper.wp execOp
  simp only [ho]
  simp [go_sem]
  exact h
theorem v_al109 (ho : o.op = .alloc 109) (h : K (a.put o.dst (.pointer (some ⟨w.heap.size, 0, none⟩))) (w.alloc (.cells #[.int .i64 0, .int .i64 0, .int .i64 0, .int .i64 0, .int .i64 0, .slice none 0 0, .slice none 0 0, .slice none 0 0] 109))) : o.wp Try.prog a w K Q := by
  unfold Oper.wp execOp
  simp only [ho]
  simp [go_sem]
  exact h
theorem v_bs24 (t : Nat) (v0 v1 v2 v3 v4 : Value) (ho : o.op = .buildSlice 24 1 #[(0, .tmp t)]) (hx : a.tmps[t]? = some (.agg #[v0, v1, v2, v3, v4])) (h : K (a.put o.dst (.slice (some ⟨w.heap.size, 0, none⟩) 1 1)) (w.alloc (.cells #[v0, v1, v2, v3, v4] 70))) : o.wp Try.prog a w K Q := by
  unfold Oper.wp execOp
  simp only [ho]
  simp [go_sem, hx]
  exact h
theorem v_bs76 (t : Nat) (v0 v1 : Value) (ho : o.op = .buildSlice 76 1 #[(0, .tmp t)]) (hx : a.tmps[t]? = some (.agg #[v0, v1])) (h : K (a.put o.dst (.slice (some ⟨w.heap.size, 0, none⟩) 1 1)) (w.alloc (.cells #[v0, v1] 129))) : o.wp Try.prog a w K Q := by
  unfold Oper.wp execOp
  simp only [ho]
  simp [go_sem, hx]
  exact h
set_option maxHeartbeats 2000000 in
theorem v_store31 (x y : Operand) (g k : Nat) (n0 n1 n2 n3 n4 n5 : Int) (b : Option Addr) (m c : Nat) (ho : o.op = .store 31 x y) (hd : o.dst = none) (hx : a.eval x = .pointer (some ⟨g, k, none⟩)) (hy : a.eval y = .agg #[.int .i64 n0, .int .i64 n1, .int .i64 n2, .int .u64 n3, .int .i64 n4, .int .i64 n5, .slice b m c]) (hc : ∀ j < 7, ∃ u, w.cell? ⟨g, k + j, none⟩ = some u) (hz : ∀ j, w.frozen? ⟨g, j, none⟩ = false) (h : K a (stC w g k [.int .i64 n0, .int .i64 n1, .int .i64 n2, .int .u64 n3, .int .i64 n4, .int .i64 n5, .slice b m c])) : o.wp Try.prog a w K Q := by
  obtain ⟨u0, c0⟩ := hc 0 (by decide)
  obtain ⟨u1, c1⟩ := hc 1 (by decide)
  obtain ⟨u2, c2⟩ := hc 2 (by decide)
  obtain ⟨u3, c3⟩ := hc 3 (by decide)
  obtain ⟨u4, c4⟩ := hc 4 (by decide)
  obtain ⟨u5, c5⟩ := hc 5 (by decide)
  obtain ⟨u6, c6⟩ := hc 6 (by decide)
  simp only [Nat.add_zero] at c0
  unfold Oper.wp execOp
  simp only [ho, hx, hy]
  simp [go_sem, c0, c1, c2, c3, c4, c5, c6, hz, hd, Act.put]
  exact h
set_option maxHeartbeats 2000000 in
theorem v_store109 (x y : Operand) (g k : Nat) (n0 n1 n2 n3 n4 : Int) (b : Option Addr) (m c : Nat) (b1 : Option Addr) (m1 c1 : Nat) (b2 : Option Addr) (m2 c2 : Nat) (ho : o.op = .store 109 x y) (hd : o.dst = none) (hx : a.eval x = .pointer (some ⟨g, k, none⟩)) (hy : a.eval y = .agg #[.int .i64 n0, .int .i64 n1, .int .i64 n2, .int .i64 n3, .int .i64 n4, .slice b m c, .slice b1 m1 c1, .slice b2 m2 c2]) (hc : ∀ j < 8, ∃ u, w.cell? ⟨g, k + j, none⟩ = some u) (hz : ∀ j, w.frozen? ⟨g, j, none⟩ = false) (h : K a (stC w g k [.int .i64 n0, .int .i64 n1, .int .i64 n2, .int .i64 n3, .int .i64 n4, .slice b m c, .slice b1 m1 c1, .slice b2 m2 c2])) : o.wp Try.prog a w K Q := by
  obtain ⟨u0, c0⟩ := hc 0 (by decide)
  obtain ⟨u1, c1⟩ := hc 1 (by decide)
  obtain ⟨u2, c2⟩ := hc 2 (by decide)
  obtain ⟨u3, c3⟩ := hc 3 (by decide)
  obtain ⟨u4, c4⟩ := hc 4 (by decide)
  obtain ⟨u5, c5⟩ := hc 5 (by decide)
  obtain ⟨u6, c6⟩ := hc 6 (by decide)
  obtain ⟨u7, c7⟩ := hc 7 (by decide)
  simp only [Nat.add_zero] at c0
  unfold Oper.wp execOp
  simp only [ho, hx, hy]
  simp [go_sem, c0, c1, c2, c3, c4, c5, c6, c7, hz, hd, Act.put]
  exact h
theorem v_load31 (x : Operand) (g : Nat) (v0 v1 v2 v3 v4 v5 v6 : Value) (ho : o.op = .load 31 x) (hx : a.eval x = .pointer (some ⟨g, 0, none⟩)) (c0 : w.cell? ⟨g, 0, none⟩ = some v0) (c1 : w.cell? ⟨g, 1, none⟩ = some v1) (c2 : w.cell? ⟨g, 2, none⟩ = some v2) (c3 : w.cell? ⟨g, 3, none⟩ = some v3) (c4 : w.cell? ⟨g, 4, none⟩ = some v4) (c5 : w.cell? ⟨g, 5, none⟩ = some v5) (c6 : w.cell? ⟨g, 6, none⟩ = some v6) (h : K (a.put o.dst (.agg #[v0, v1, v2, v3, v4, v5, v6])) w) : o.wp Try.prog a w K Q := by
  unfold Oper.wp execOp
  simp only [ho, hx]
  simp [go_sem, c0, c1, c2, c3, c4, c5, c6]
  exact h
theorem v_conv (x : Operand) (n : Int) (ho : o.op = .convert 3 28 x) (hx : a.eval x = .int .i64 n) (h : K (a.put o.dst (.int .u64 (IntKind.u64.wrap n))) w) : o.wp Try.prog a w K Q := by
  unfold Oper.wp execOp
  simp only [ho, hx]
  simp [go_sem]
  exact h
theorem v_sub1 (x : Operand) (n : Nat) (hn : 1 ≤ n) (hb : n ≤ 1000000) (ho : o.op = .binOp .sub 3 x (.const (.int .i64 1)) 3) (hx : a.eval x = .int .i64 (n : Nat)) (h : K (a.put o.dst (.int .i64 ((n - 1 : Nat) : Int))) w) : o.wp Try.prog a w K Q := by
  have e : IntKind.i64.wrap ((n : Int) - 1) = ((n - 1 : Nat) : Int) := by rw [IntKind.wrap_i64]; omega
  unfold Oper.wp execOp
  simp only [ho, hx]
  simp [go_sem, e]
  exact h
theorem v_b5 (t0 : Nat) (n0 : Int) (t3 : Nat) (n3 : Int) (t4 : Nat) (n4 : Int) (ho : o.op = .build 70 #[(0, .tmp t0), (1, .const (.bool true)), (3, .tmp t3), (4, .tmp t4)]) (h0 : a.tmps[t0]? = some (.int .i64 n0)) (h3 : a.tmps[t3]? = some (.int .i64 n3)) (h4 : a.tmps[t4]? = some (.int .i64 n4)) (h : K (a.put o.dst (.agg #[.int .i64 n0, .bool true, .int .u64 0, .int .i64 n3, .int .i64 n4])) w) : o.wp Try.prog a w K Q := by
  unfold Oper.wp execOp
  simp only [ho]
  simp [go_sem, h0, h3, h4]
  exact h
theorem v_b6 (t0 : Nat) (n0 : Int) (t2 : Nat) (n2 : Int) (ho : o.op = .build 70 #[(0, .tmp t0), (2, .tmp t2)]) (h0 : a.tmps[t0]? = some (.int .i64 n0)) (h2 : a.tmps[t2]? = some (.int .u64 n2)) (h : K (a.put o.dst (.agg #[.int .i64 n0, .bool false, .int .u64 n2, .int .i64 0, .int .i64 0])) w) : o.wp Try.prog a w K Q := by
  unfold Oper.wp execOp
  simp only [ho]
  simp [go_sem, h0, h2]
  exact h
theorem v_b8 (t1 : Nat) (n1 : Int) (t3 : Nat) (n3 : Int) (ho : o.op = .build 31 #[(0, .const (.int .i64 0)), (1, .tmp t1), (3, .tmp t3)]) (h1 : a.tmps[t1]? = some (.int .i64 n1)) (h3 : a.tmps[t3]? = some (.int .u64 n3)) (h : K (a.put o.dst (.agg #[.int .i64 0, .int .i64 n1, .int .i64 0, .int .u64 n3, .int .i64 0, .int .i64 0, .slice none 0 0])) w) : o.wp Try.prog a w K Q := by
  unfold Oper.wp execOp
  simp only [ho]
  simp [go_sem, h1, h3]
  exact h
theorem v_b10 (t1 : Nat) (n1 : Int) (t4 : Nat) (n4 : Int) (ho : o.op = .build 31 #[(0, .const (.int .i64 1)), (1, .tmp t1), (4, .tmp t4)]) (h1 : a.tmps[t1]? = some (.int .i64 n1)) (h4 : a.tmps[t4]? = some (.int .i64 n4)) (h : K (a.put o.dst (.agg #[.int .i64 1, .int .i64 n1, .int .i64 0, .int .u64 0, .int .i64 n4, .int .i64 0, .slice none 0 0])) w) : o.wp Try.prog a w K Q := by
  unfold Oper.wp execOp
  simp only [ho]
  simp [go_sem, h1, h4]
  exact h
theorem v_b12  (ho : o.op = .build 31 #[(0, .const (.int .i64 2)), (1, .const (.int .i64 1))])  (h : K (a.put o.dst (.agg #[.int .i64 2, .int .i64 1, .int .i64 0, .int .u64 0, .int .i64 0, .int .i64 0, .slice none 0 0])) w) : o.wp Try.prog a w K Q := by
  unfold Oper.wp execOp
  simp only [ho]
  simp [go_sem]
  exact h
theorem v_b15 (t1 : Nat) (n1 : Int) (t4 : Nat) (n4 : Int) (t5 : Nat) (n5 : Int) (t6 : Nat) (b6 : Option Addr) (m6 c6 : Nat) (ho : o.op = .build 31 #[(0, .const (.int .i64 3)), (1, .tmp t1), (4, .tmp t4), (5, .tmp t5), (6, .tmp t6)]) (h1 : a.tmps[t1]? = some (.int .i64 n1)) (h4 : a.tmps[t4]? = some (.int .i64 n4)) (h5 : a.tmps[t5]? = some (.int .i64 n5)) (h6 : a.tmps[t6]? = some (.slice b6 m6 c6)) (h : K (a.put o.dst (.agg #[.int .i64 3, .int .i64 n1, .int .i64 0, .int .u64 0, .int .i64 n4, .int .i64 n5, .slice b6 m6 c6])) w) : o.wp Try.prog a w K Q := by
  unfold Oper.wp execOp
  simp only [ho]
  simp [go_sem, h1, h4, h5, h6]
  exact h
theorem v_b19 (t2 : Nat) (n2 : Int) (t6 : Nat) (b6 : Option Addr) (m6 c6 : Nat) (ho : o.op = .build 31 #[(0, .const (.int .i64 4)), (2, .tmp t2), (6, .tmp t6)]) (h2 : a.tmps[t2]? = some (.int .i64 n2)) (h6 : a.tmps[t6]? = some (.slice b6 m6 c6)) (h : K (a.put o.dst (.agg #[.int .i64 4, .int .i64 0, .int .i64 n2, .int .u64 0, .int .i64 0, .int .i64 0, .slice b6 m6 c6])) w) : o.wp Try.prog a w K Q := by
  unfold Oper.wp execOp
  simp only [ho]
  simp [go_sem, h2, h6]
  exact h
theorem v_b26 (t2 : Nat) (n2 : Int) (t6 : Nat) (b6 : Option Addr) (m6 c6 : Nat) (ho : o.op = .build 31 #[(0, .const (.int .i64 5)), (2, .tmp t2), (6, .tmp t6)]) (h2 : a.tmps[t2]? = some (.int .i64 n2)) (h6 : a.tmps[t6]? = some (.slice b6 m6 c6)) (h : K (a.put o.dst (.agg #[.int .i64 5, .int .i64 0, .int .i64 n2, .int .u64 0, .int .i64 0, .int .i64 0, .slice b6 m6 c6])) w) : o.wp Try.prog a w K Q := by
  unfold Oper.wp execOp
  simp only [ho]
  simp [go_sem, h2, h6]
  exact h
theorem v_b41 (t1 : Nat) (n1 : Int) (t5 : Nat) (b5 : Option Addr) (m5 c5 : Nat) (ho : o.op = .build 109 #[(0, .const (.int .i64 0)), (1, .tmp t1), (5, .tmp t5)]) (h1 : a.tmps[t1]? = some (.int .i64 n1)) (h5 : a.tmps[t5]? = some (.slice b5 m5 c5)) (h : K (a.put o.dst (.agg #[.int .i64 0, .int .i64 n1, .int .i64 0, .int .i64 0, .int .i64 0, .slice b5 m5 c5, .slice none 0 0, .slice none 0 0])) w) : o.wp Try.prog a w K Q := by
  unfold Oper.wp execOp
  simp only [ho]
  simp [go_sem, h1, h5]
  exact h
theorem v_b44 (t1 : Nat) (n1 : Int) (t2 : Nat) (n2 : Int) (t5 : Nat) (b5 : Option Addr) (m5 c5 : Nat) (ho : o.op = .build 109 #[(0, .const (.int .i64 1)), (1, .tmp t1), (2, .tmp t2), (5, .tmp t5)]) (h1 : a.tmps[t1]? = some (.int .i64 n1)) (h2 : a.tmps[t2]? = some (.int .i64 n2)) (h5 : a.tmps[t5]? = some (.slice b5 m5 c5)) (h : K (a.put o.dst (.agg #[.int .i64 1, .int .i64 n1, .int .i64 n2, .int .i64 0, .int .i64 0, .slice b5 m5 c5, .slice none 0 0, .slice none 0 0])) w) : o.wp Try.prog a w K Q := by
  unfold Oper.wp execOp
  simp only [ho]
  simp [go_sem, h1, h2, h5]
  exact h
theorem v_b59 (t0 : Nat) (n0 : Int) (t1 : Nat) (n1 : Int) (t5 : Nat) (b5 : Option Addr) (m5 c5 : Nat) (ho : o.op = .build 109 #[(0, .tmp t0), (1, .tmp t1), (5, .tmp t5)]) (h0 : a.tmps[t0]? = some (.int .i64 n0)) (h1 : a.tmps[t1]? = some (.int .i64 n1)) (h5 : a.tmps[t5]? = some (.slice b5 m5 c5)) (h : K (a.put o.dst (.agg #[.int .i64 n0, .int .i64 n1, .int .i64 0, .int .i64 0, .int .i64 0, .slice b5 m5 c5, .slice none 0 0, .slice none 0 0])) w) : o.wp Try.prog a w K Q := by
  unfold Oper.wp execOp
  simp only [ho]
  simp [go_sem, h0, h1, h5]
  exact h
theorem v_b66 (t0 : Nat) (n0 : Int) (t1 : Nat) (n1 : Int) (ho : o.op = .build 129 #[(0, .tmp t0), (1, .tmp t1)]) (h0 : a.tmps[t0]? = some (.int .i64 n0)) (h1 : a.tmps[t1]? = some (.int .u64 n1)) (h : K (a.put o.dst (.agg #[.int .i64 n0, .int .u64 n1])) w) : o.wp Try.prog a w K Q := by
  unfold Oper.wp execOp
  simp only [ho]
  simp [go_sem, h0, h1]
  exact h
end
end Go.Proofs.Qxb6500772a
