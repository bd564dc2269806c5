/- Regions that only read, with calls that keep what stands. -/
import Derived.Test.Qxb6500772aLa
namespace Go.Proofs.Qxb6500772a
open Go Go.RowKit Go.Qm
set_option linter.unusedVariables false
set_option linter.unusedSimpArgs false
/-- What stands while such a region runs: each answer so far, in the world at hand. -/
def RK (w0 : World) (V : Nat → Value → World → Prop) (vs : Nat → Option Value) (w : World) : Prop := Keep w0 w ∧ ∀ k u, vs k = some u → V k u w
theorem RK.start {w0 : World} {V : Nat → Value → World → Prop} : RK w0 V (fun _ => none) w0 := ⟨Keep.refl _, fun k u h => by cases h⟩
theorem RK.step {w0 w y : World} {V : Nat → Value → World → Prop} {vs : Nat → Option Value} (h : RK w0 V vs w) (hV : ∀ k u Z Z', Keep Z Z' → V k u Z → V k u Z') {k : Nat} {u : Value} (kz : Keep w y) (hu : V k u y) : RK w0 V (upv vs k u) y := by
  refine ⟨h.1.trans kz, fun j x hx => ?_⟩
  by_cases e : j = k
  · subst e
    rw [upv_same] at hx
    rw [← Option.some.inj hx]
    exact hu
  · rw [upv_ne _ _ e] at hx
    exact hV j x _ _ kz (h.2 j x hx)
section
variable {o : Oper} {a : Act} {w : World} {K : Act → World → Prop} {Q : Exit → Act → World → Prop}
set_option maxRecDepth 20000 in
theorem v_g52 (x : Operand) (i g k : Nat) (ho : o.op = .fieldAddr 52 x i) (hi : (i = 0 ∧ k = 0) ∨ (i = 1 ∧ k = 1) ∨ (i = 2 ∧ k = 3) ∨ (i = 3 ∧ k = 5) ∨ (i = 5 ∧ k = 8) ∨ (i = 6 ∧ k = 9) ∨ (i = 7 ∧ k = 10) ∨ (i = 8 ∧ k = 11) ∨ (i = 9 ∧ k = 12)) (hx : a.eval x = .pointer (some ⟨g, 0, none⟩)) (h : K (a.put o.dst (.pointer (some ⟨g, k, none⟩))) w) : o.wp Try.prog a w K Q := by
  unfold Oper.wp execOp
  simp only [ho, hx]
  rcases hi with ⟨rfl, rfl⟩ | ⟨rfl, rfl⟩ | ⟨rfl, rfl⟩ | ⟨rfl, rfl⟩ | ⟨rfl, rfl⟩ | ⟨rfl, rfl⟩ | ⟨rfl, rfl⟩ | ⟨rfl, rfl⟩ | ⟨rfl, rfl⟩ <;> (simp [go_sem]; exact h)
set_option maxRecDepth 8000 in
theorem v_g37 (x : Operand) (i g k : Nat) (ho : o.op = .fieldAddr 37 x i) (hi : (i = 0 ∧ k = 0) ∨ (i = 1 ∧ k = 1)) (hx : a.eval x = .pointer (some ⟨g, 0, none⟩)) (h : K (a.put o.dst (.pointer (some ⟨g, k, none⟩))) w) : o.wp Try.prog a w K Q := by
  unfold Oper.wp execOp
  simp only [ho, hx]
  rcases hi with ⟨rfl, rfl⟩ | ⟨rfl, rfl⟩ <;> (simp [go_sem]; exact h)
set_option maxRecDepth 8000 in
theorem v_g70 (x : Operand) (i g k : Nat) (ho : o.op = .fieldAddr 70 x i) (hi : (i = 0 ∧ k = 0) ∨ (i = 1 ∧ k = 1) ∨ (i = 2 ∧ k = 2) ∨ (i = 3 ∧ k = 3) ∨ (i = 4 ∧ k = 4)) (hx : a.eval x = .pointer (some ⟨g, 0, none⟩)) (h : K (a.put o.dst (.pointer (some ⟨g, k, none⟩))) w) : o.wp Try.prog a w K Q := by
  unfold Oper.wp execOp
  simp only [ho, hx]
  rcases hi with ⟨rfl, rfl⟩ | ⟨rfl, rfl⟩ | ⟨rfl, rfl⟩ | ⟨rfl, rfl⟩ | ⟨rfl, rfl⟩ <;> (simp [go_sem]; exact h)
theorem v_eq4 (x y : Operand) (p q r : Bool) (ho : o.op = .binOp .eql 4 x y 4) (hx : a.eval x = .bool p) (hy : a.eval y = .bool q) (hr : (p == q) = r) (h : K (a.put o.dst (.bool r)) w) : o.wp Try.prog a w K Q := by
  unfold Oper.wp execOp
  simp only [ho, hx, hy]
  simp [go_sem, hr]
  exact h
theorem v_eq3 (x y : Operand) (p q : Int) (r : Bool) (ho : o.op = .binOp .eql 3 x y 3) (hx : a.eval x = .int .i64 p) (hy : a.eval y = .int .i64 q) (hr : (p == q) = r) (h : K (a.put o.dst (.bool r)) w) : o.wp Try.prog a w K Q := by
  unfold Oper.wp execOp
  simp only [ho, hx, hy]
  simp [go_sem, hr]
  exact h
theorem v_len55 (t : Nat) (b : Option Addr) (m c : Nat) (ho : o.op = .call { callee := .builtin .len, args := #[.tmp t], argTypes := #[55] }) (hty : o.type = 3) (hx : a.tmps[t]? = some (.slice b m c)) (h : K (a.put o.dst (.int .i64 ((m : Nat) : Int))) w) : o.wp Try.prog a w K Q := by
  unfold Oper.wp execOp
  simp only [ho, hty]
  simp [go_sem, hx]
  exact h
theorem v_ld2 (x : Operand) (g k : Nat) (v : Value) (ho : o.op = .load 2 x) (hx : a.eval x = .pointer (some ⟨g, k, none⟩)) (hc : w.cell? ⟨g, k, none⟩ = some v) (h : K (a.put o.dst v) w) : o.wp Try.prog a w K Q := by
  unfold Oper.wp execOp
  simp only [ho, hx]
  simp [go_sem, hc]
  exact h
theorem v_lss2 (x y : Operand) (p q : Int) (r : Bool) (ho : o.op = .binOp .lss 2 x y 2) (hx : a.eval x = .int .i64 p) (hy : a.eval y = .int .i64 q) (hr : decide (p < q) = r) (h : K (a.put o.dst (.bool r)) w) : o.wp Try.prog a w K Q := by
  unfold Oper.wp execOp
  simp only [ho, hx, hy]
  subst hr
  simp [go_sem]
  exact h
theorem v_gtr2 (x y : Operand) (p q : Int) (r : Bool) (ho : o.op = .binOp .gtr 2 x y 2) (hx : a.eval x = .int .i64 p) (hy : a.eval y = .int .i64 q) (hr : decide (q < p) = r) (h : K (a.put o.dst (.bool r)) w) : o.wp Try.prog a w K Q := by
  unfold Oper.wp execOp
  simp only [ho, hx, hy]
  subst hr
  simp [go_sem]
  exact h
end
end Go.Proofs.Qxb6500772a
