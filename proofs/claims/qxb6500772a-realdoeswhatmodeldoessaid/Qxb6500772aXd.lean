/- Exec's regions with guards: those of RTrig and Ctu where a guard is false. -/
import Derived.Test.Qxb6500772aEc
import Derived.Test.Qxb6500772aTb
namespace Go.Qm
open Go Go.RowKit
theorem wpOp_no {P : Program} {ops : Array Oper} {Q : Exit → Act → World → Prop} {i : Nat} {K : Act → World → Prop} {a : Act} {w : World} (o : Oper) (ho : ops[i]? = some o) (j : Nat) (oj : Oper) (hj : ops[j]? = some oj) (d : Nat) (hd : oj.dst = some d) (hg : o.guard = some (j, true)) (hv : a.tmps[d]? = some (.bool false)) (h : K (a.put o.dst undef) w) : wpOp P ops Q i K a w := by
  unfold wpOp
  rw [ho]
  have : Region.wanted o (yielded ops a.tmps) = false := by simp [Region.wanted, hg, yielded, hj, hd, hv]
  simp only [this, Bool.false_eq_true, if_false]
  exact h
theorem wpOp_yes {P : Program} {ops : Array Oper} {Q : Exit → Act → World → Prop} {i : Nat} {K : Act → World → Prop} {a : Act} {w : World} (o : Oper) (ho : ops[i]? = some o) (j : Nat) (oj : Oper) (hj : ops[j]? = some oj) (d : Nat) (hd : oj.dst = some d) (hg : o.guard = some (j, true)) (hv : a.tmps[d]? = some (.bool true)) (h : o.wp P a w K Q) : wpOp P ops Q i K a w := by
  unfold wpOp
  rw [ho]
  have : Region.wanted o (yielded ops a.tmps) = true := by simp [Region.wanted, hg, yielded, hj, hd, hv]
  simp only [this, if_true]
  exact Or.inl h
end Go.Qm
namespace Go.Proofs.Qxb6500772a
open Go Go.RowKit Go.Qm
set_option linter.unusedVariables false
set_option linter.unusedSimpArgs false
section
variable {o : Oper} {a : Act} {w : World} {K : Act → World → Prop} {Q : Exit → Act → World → Prop}
theorem v_f37 (x : Operand) (g : Nat) (ho : o.op = .fieldAddr 37 x 0) (hx : a.eval x = .pointer (some ⟨g, 0, none⟩)) (h : K (a.put o.dst (.pointer (some ⟨g, 0, none⟩))) w) : o.wp Try.prog a w K Q := by
  unfold Oper.wp execOp
  simp only [ho, hx]
  simp [go_sem]
  exact h
theorem v_load35 (x : Operand) (g k : Nat) (v : Value) (ho : o.op = .load 35 x) (hx : a.eval x = .pointer (some ⟨g, k, none⟩)) (hc : w.cell? ⟨g, k, none⟩ = some v) (h : K (a.put o.dst v) w) : o.wp Try.prog a w K Q := by
  unfold Oper.wp execOp
  simp only [ho, hx]
  simp [go_sem, hc]
  exact h
theorem v_load28 (x : Operand) (g k : Nat) (v : Value) (ho : o.op = .load 28 x) (hx : a.eval x = .pointer (some ⟨g, k, none⟩)) (hc : w.cell? ⟨g, k, none⟩ = some v) (h : K (a.put o.dst v) w) : o.wp Try.prog a w K Q := by
  unfold Oper.wp execOp
  simp only [ho, hx]
  simp [go_sem, hc]
  exact h
theorem v_eql28 (x : Operand) (n m : Int) (r : Bool) (ho : o.op = .binOp .eql 28 x (.const (.int .u64 m)) 28) (hx : a.eval x = .int .u64 n) (hr : (n == m) = r) (h : K (a.put o.dst (.bool r)) w) : o.wp Try.prog a w K Q := by
  unfold Oper.wp execOp
  simp only [ho, hx]
  simp [go_sem]
  subst hr
  first | exact h | (simp only [beq_iff_eq] at *; exact h) | simpa using h
theorem v_pickF (x y : Operand) (v : Value) (ho : o.op = .pick x y (.const v)) (hx : a.eval x = .bool false) (h : K (a.put o.dst v) w) : o.wp Try.prog a w K Q := by
  unfold Oper.wp execOp
  simp only [ho, hx]
  simp [go_sem]
  exact h
theorem v_pickT (x y : Operand) (u v : Value) (ho : o.op = .pick x y (.const v)) (hx : a.eval x = .bool true) (hy : a.eval y = u) (h : K (a.put o.dst u) w) : o.wp Try.prog a w K Q := by
  unfold Oper.wp execOp
  simp only [ho, hx, hy]
  simp [go_sem]
  exact h
theorem v_index35 (x y : Operand) (g o' m c k : Nat) (ho : o.op = .indexAddr 35 x y) (hx : a.eval x = .slice (some ⟨g, o', none⟩) m c) (hy : a.eval y = .int .i64 (k : Nat)) (hk : k < m) (h : K (a.put o.dst (.pointer (some ⟨g, o' + k, none⟩))) w) : o.wp Try.prog a w K Q := by
  have h1 : (k : Int) < m := by omega
  have h2 : (0 : Int) ≤ k := by omega
  unfold Oper.wp execOp
  simp only [ho, hx, hy]
  simp [go_sem, h1, h2]
  exact h
theorem v_store28 (x y : Operand) (g k : Nat) (v : Int) (u : Value) (ho : o.op = .store 28 x y) (hd : o.dst = none) (hx : a.eval x = .pointer (some ⟨g, k, none⟩)) (hy : a.eval y = .int .u64 v) (hc : w.cell? ⟨g, k, none⟩ = some u) (hz : w.frozen? ⟨g, k, none⟩ = false) (h : K a (w.setCell ⟨g, k, none⟩ (.int .u64 v))) : o.wp Try.prog a w K Q := by
  unfold Oper.wp execOp
  simp only [ho, hx, hy]
  simp [go_sem, hc, hz, hd, Act.put]
  exact h
end
theorem put_litx (l : List Value) (d : List Deferred) (i : Nat) (v : Value) : Act.put ⟨l.toArray, d⟩ (some i) v = ⟨(l.set i v).toArray, d⟩ := by simp [Act.put]
def r31 : Array Oper := #[{ dst := some 222, op := Go.Op.move (Go.Operand.tmp 2), type := 59, pos := "interpm.go:151", after := #[], guard := none }, { dst := some 223, op := Go.Op.nilCheck (Go.Operand.tmp 222), type := 0, pos := "interpm.go:151", after := #[{ on := 0, ground := Go.Ground.data }], guard := none }, { dst := some 224, op := Go.Op.fieldAddr 37 (Go.Operand.tmp 223) 0, type := 0, pos := "interpm.go:151", after := #[{ on := 1, ground := Go.Ground.data }], guard := none }, { dst := some 225, op := Go.Op.load 35 (Go.Operand.tmp 224), type := 35, pos := "interpm.go:151", after := #[{ on := 2, ground := Go.Ground.data }], guard := none }, { dst := some 226, op := Go.Op.fieldAddr 109 (Go.Operand.tmp 7) 1, type := 0, pos := "interpm.go:151", after := #[], guard := none }, { dst := some 227, op := Go.Op.load 3 (Go.Operand.tmp 226), type := 3, pos := "interpm.go:151", after := #[{ on := 4, ground := Go.Ground.data }], guard := none }, { dst := some 228, op := Go.Op.move (Go.Operand.tmp 18), type := 28, pos := "interpm.go:151", after := #[], guard := none }, { dst := some 229, op := Go.Op.binOp Go.BinOp.eql 28 (Go.Operand.tmp 228) (Go.Operand.const (Go.Value.int Go.IntKind.u64 1)) 28, type := 4, pos := "interpm.go:151", after := #[{ on := 6, ground := Go.Ground.data }], guard := none }, { dst := some 230, op := Go.Op.move (Go.Operand.tmp 229), type := 4, pos := "interpm.go:151", after := #[{ on := 7, ground := Go.Ground.data }], guard := none }, { dst := some 231, op := Go.Op.move (Go.Operand.tmp 2), type := 59, pos := "interpm.go:151", after := #[{ on := 8, ground := Go.Ground.guard }], guard := some (8, true) }, { dst := some 232, op := Go.Op.nilCheck (Go.Operand.tmp 231), type := 0, pos := "interpm.go:151", after := #[{ on := 9, ground := Go.Ground.data }, { on := 8, ground := Go.Ground.guard }], guard := some (8, true) }, { dst := some 233, op := Go.Op.fieldAddr 37 (Go.Operand.tmp 232) 0, type := 0, pos := "interpm.go:151", after := #[{ on := 10, ground := Go.Ground.data }, { on := 8, ground := Go.Ground.guard }], guard := some (8, true) }, { dst := some 234, op := Go.Op.load 35 (Go.Operand.tmp 233), type := 35, pos := "interpm.go:151", after := #[{ on := 11, ground := Go.Ground.data }, { on := 8, ground := Go.Ground.guard }], guard := some (8, true) }, { dst := some 235, op := Go.Op.fieldAddr 109 (Go.Operand.tmp 7) 1, type := 0, pos := "interpm.go:151", after := #[{ on := 8, ground := Go.Ground.guard }], guard := some (8, true) }, { dst := some 236, op := Go.Op.load 3 (Go.Operand.tmp 235), type := 3, pos := "interpm.go:151", after := #[{ on := 13, ground := Go.Ground.data }, { on := 8, ground := Go.Ground.guard }], guard := some (8, true) }, { dst := some 237, op := Go.Op.binOp Go.BinOp.add 3 (Go.Operand.tmp 236) (Go.Operand.const (Go.Value.int Go.IntKind.i64 1)) 3, type := 3, pos := "interpm.go:151", after := #[{ on := 14, ground := Go.Ground.data }, { on := 8, ground := Go.Ground.guard }], guard := some (8, true) }, { dst := some 238, op := Go.Op.indexAddr 35 (Go.Operand.tmp 234) (Go.Operand.tmp 237), type := 0, pos := "interpm.go:151", after := #[{ on := 12, ground := Go.Ground.data }, { on := 15, ground := Go.Ground.data }, { on := 8, ground := Go.Ground.guard }], guard := some (8, true) }, { dst := some 239, op := Go.Op.load 28 (Go.Operand.tmp 238), type := 28, pos := "interpm.go:151", after := #[{ on := 16, ground := Go.Ground.data }, { on := 8, ground := Go.Ground.guard }], guard := some (8, true) }, { dst := some 240, op := Go.Op.binOp Go.BinOp.eql 28 (Go.Operand.tmp 239) (Go.Operand.const (Go.Value.int Go.IntKind.u64 0)) 28, type := 4, pos := "interpm.go:151", after := #[{ on := 17, ground := Go.Ground.data }, { on := 8, ground := Go.Ground.guard }], guard := some (8, true) }, { dst := some 241, op := Go.Op.pick (Go.Operand.tmp 230) (Go.Operand.tmp 240) (Go.Operand.const (Go.Value.bool false)), type := 4, pos := "interpm.go:151", after := #[{ on := 8, ground := Go.Ground.data }, { on := 18, ground := Go.Ground.data }], guard := none }, { dst := some 242, op := Go.Op.call { callee := Go.Callee.value (Go.Operand.func 40), args := #[Go.Operand.tmp 241], argTypes := #[4] }, type := 28, pos := "interpm.go:151", after := #[{ on := 19, ground := Go.Ground.data }, { on := 8, ground := Go.Ground.chain }], guard := none }, { dst := some 243, op := Go.Op.indexAddr 35 (Go.Operand.tmp 225) (Go.Operand.tmp 227), type := 0, pos := "interpm.go:151", after := #[{ on := 3, ground := Go.Ground.data }, { on := 5, ground := Go.Ground.data }, { on := 0, ground := Go.Ground.phase }, { on := 1, ground := Go.Ground.phase }, { on := 2, ground := Go.Ground.phase }, { on := 3, ground := Go.Ground.phase }, { on := 4, ground := Go.Ground.phase }, { on := 5, ground := Go.Ground.phase }, { on := 6, ground := Go.Ground.phase }, { on := 7, ground := Go.Ground.phase }, { on := 8, ground := Go.Ground.phase }, { on := 9, ground := Go.Ground.phase }, { on := 10, ground := Go.Ground.phase }, { on := 11, ground := Go.Ground.phase }, { on := 12, ground := Go.Ground.phase }, { on := 13, ground := Go.Ground.phase }, { on := 14, ground := Go.Ground.phase }, { on := 15, ground := Go.Ground.phase }, { on := 16, ground := Go.Ground.phase }, { on := 17, ground := Go.Ground.phase }, { on := 18, ground := Go.Ground.phase }, { on := 19, ground := Go.Ground.phase }, { on := 20, ground := Go.Ground.phase }], guard := none }, { dst := none, op := Go.Op.store 28 (Go.Operand.tmp 243) (Go.Operand.tmp 242), type := 0, pos := "interpm.go:151", after := #[{ on := 21, ground := Go.Ground.data }, { on := 20, ground := Go.Ground.data }, { on := 20, ground := Go.Ground.chain }, { on := 0, ground := Go.Ground.phase }, { on := 1, ground := Go.Ground.phase }, { on := 2, ground := Go.Ground.phase }, { on := 3, ground := Go.Ground.phase }, { on := 4, ground := Go.Ground.phase }, { on := 5, ground := Go.Ground.phase }, { on := 6, ground := Go.Ground.phase }, { on := 7, ground := Go.Ground.phase }, { on := 8, ground := Go.Ground.phase }, { on := 9, ground := Go.Ground.phase }, { on := 10, ground := Go.Ground.phase }, { on := 11, ground := Go.Ground.phase }, { on := 12, ground := Go.Ground.phase }, { on := 13, ground := Go.Ground.phase }, { on := 14, ground := Go.Ground.phase }, { on := 15, ground := Go.Ground.phase }, { on := 16, ground := Go.Ground.phase }, { on := 17, ground := Go.Ground.phase }, { on := 18, ground := Go.Ground.phase }, { on := 19, ground := Go.Ground.phase }, { on := 20, ground := Go.Ground.phase }], guard := none }]
def r31L (gS gC gQ N cap C : Nat) (n0 : Int) : List (Nat × Value) := [(222, .pointer (some ⟨gS, 0, none⟩)), (223, .pointer (some ⟨gS, 0, none⟩)), (224, .pointer (some ⟨gS, 0, none⟩)), (225, .slice (some ⟨gC, 0, none⟩) N cap), (226, .pointer (some ⟨gQ, 1, none⟩)), (227, .int .i64 ((C : Nat) : Int)), (228, .int .u64 n0), (229, .bool false), (230, .bool false), (231, undef), (232, undef), (233, undef), (234, undef), (235, undef), (236, undef), (237, undef), (238, undef), (239, undef), (240, undef), (241, .bool false), (242, .int .u64 0), (243, .pointer (some ⟨gC, 0 + C, none⟩))]
theorem r31_chk : chk r31 22 = true := by kernel_rfl
set_option maxRecDepth 4000 in
set_option maxHeartbeats 4000000 in
theorem r31_c {Q : Exit → Act → World → Prop} {a0 : Act} {w : World} (gS gC gQ N cap C : Nat) (n0 : Int) (hz0 : a0.tmps.size = 523)
    (h2 : a0.tmps[2]? = some (.pointer (some ⟨gS, 0, none⟩))) (h7 : a0.tmps[7]? = some (.pointer (some ⟨gQ, 0, none⟩))) (h18 : a0.tmps[18]? = some (.int .u64 n0))
    (hn0 : (n0 == 1) = false) (hCN : C < N) (hc0 : w.drew.cell? ⟨gS, 0, none⟩ = some (.slice (some ⟨gC, 0, none⟩) N cap)) (hq1 : w.drew.cell? ⟨gQ, 1, none⟩ = some (.int .i64 ((C : Nat) : Int))) (hu : ∃ u, w.drew.cell? ⟨gC, 0 + C, none⟩ = some u) (hf : w.drew.frozen? ⟨gC, 0 + C, none⟩ = false)
    (hend : Q .normal (lay a0 (r31L gS gC gQ N cap C n0)) (w.drew.setCell ⟨gC, 0 + C, none⟩ (.int .u64 0))) :
    (Code.region 31 r31 true).wp Try.prog Q a0 w := by
  have o2 : ∀ a : Act, (∀ t, t ∉ (r31L gS gC gQ N cap C n0).map Prod.fst → a.tmps[t]? = a0.tmps[t]?) → a.eval (.tmp 2) = .pointer (some ⟨gS, 0, none⟩) := fun a hot => veval_of ((hot 2 (by rw [show (r31L gS gC gQ N cap C n0).map Prod.fst = [222, 223, 224, 225, 226, 227, 228, 229, 230, 231, 232, 233, 234, 235, 236, 237, 238, 239, 240, 241, 242, 243] from rfl]; decide)).trans h2)
  have o7 : ∀ a : Act, (∀ t, t ∉ (r31L gS gC gQ N cap C n0).map Prod.fst → a.tmps[t]? = a0.tmps[t]?) → a.eval (.tmp 7) = .pointer (some ⟨gQ, 0, none⟩) := fun a hot => veval_of ((hot 7 (by rw [show (r31L gS gC gQ N cap C n0).map Prod.fst = [222, 223, 224, 225, 226, 227, 228, 229, 230, 231, 232, 233, 234, 235, 236, 237, 238, 239, 240, 241, 242, 243] from rfl]; decide)).trans h7)
  have o18 : ∀ a : Act, (∀ t, t ∉ (r31L gS gC gQ N cap C n0).map Prod.fst → a.tmps[t]? = a0.tmps[t]?) → a.eval (.tmp 18) = .int .u64 n0 := fun a hot => veval_of ((hot 18 (by rw [show (r31L gS gC gQ N cap C n0).map Prod.fst = [222, 223, 224, 225, 226, 227, 228, 229, 230, 231, 232, 233, 234, 235, 236, 237, 238, 239, 240, 241, 242, 243] from rfl]; decide)).trans h18)
  have hs2 : ∀ x ∈ r31L gS gC gQ N cap C n0, x.1 < a0.tmps.size := by
    intro x hx
    have hx1 : x.1 ∈ (r31L gS gC gQ N cap C n0).map Prod.fst := List.mem_map_of_mem hx
    rw [show (r31L gS gC gQ N cap C n0).map Prod.fst = [222, 223, 224, 225, 226, 227, 228, 229, 230, 231, 232, 233, 234, 235, 236, 237, 238, 239, 240, 241, 242, 243] from rfl] at hx1
    rw [hz0]
    have : ∀ y ∈ [222, 223, 224, 225, 226, 227, 228, 229, 230, 231, 232, 233, 234, 235, 236, 237, 238, 239, 240, 241, 242, 243], y < 523 := by decide
    exact this _ hx1
  have hnd : ((r31L gS gC gQ N cap C n0).map Prod.fst).Nodup := by
    rw [show (r31L gS gC gQ N cap C n0).map Prod.fst = [222, 223, 224, 225, 226, 227, 228, 229, 230, 231, 232, 233, 234, 235, 236, 237, 238, 239, 240, 241, 242, 243] from rfl]; decide
  refine wp_region_vals (by rfl) 22 (r31L gS gC gQ N cap C n0) rfl (by decide) r31_chk hnd hs2 (fun W => W = w.drew) rfl ?_ ?_
  · intro i x hx a w' hJ hot hdp
    subst hJ
    match i, hx with
    | 0, hx =>
      obtain rfl := Option.some.inj hx
      have e1 := o2 a hot
      exact wpOp_of _ rfl rfl (v_move (.tmp 2) _ rfl e1 ⟨rfl, rfl⟩)
    | 1, hx =>
      obtain rfl := Option.some.inj hx
      have e1 := veval_of (hdp 0 (by decide) _ rfl)
      exact wpOp_of _ rfl rfl (v_nil (.tmp 222) _ rfl e1 ⟨rfl, rfl⟩)
    | 2, hx =>
      obtain rfl := Option.some.inj hx
      have e1 := veval_of (hdp 1 (by decide) _ rfl)
      exact wpOp_of _ rfl rfl (v_f37 (.tmp 223) _ rfl e1 ⟨rfl, rfl⟩)
    | 3, hx =>
      obtain rfl := Option.some.inj hx
      have e1 := veval_of (hdp 2 (by decide) _ rfl)
      exact wpOp_of _ rfl rfl (v_load35 (.tmp 224) _ _ _ rfl e1 hc0 ⟨rfl, rfl⟩)
    | 4, hx =>
      obtain rfl := Option.some.inj hx
      have e1 := o7 a hot
      exact wpOp_of _ rfl rfl (v_f109 (.tmp 7) _ rfl e1 ⟨rfl, rfl⟩)
    | 5, hx =>
      obtain rfl := Option.some.inj hx
      have e1 := veval_of (hdp 4 (by decide) _ rfl)
      exact wpOp_of _ rfl rfl (v_load3 (.tmp 226) _ _ _ rfl e1 hq1 ⟨rfl, rfl⟩)
    | 6, hx =>
      obtain rfl := Option.some.inj hx
      have e1 := o18 a hot
      exact wpOp_of _ rfl rfl (v_move (.tmp 18) _ rfl e1 ⟨rfl, rfl⟩)
    | 7, hx =>
      obtain rfl := Option.some.inj hx
      have e1 := veval_of (hdp 6 (by decide) _ rfl)
      exact wpOp_of _ rfl rfl (v_eql28 (.tmp 228) _ _ _ rfl e1 hn0 ⟨rfl, rfl⟩)
    | 8, hx =>
      obtain rfl := Option.some.inj hx
      have e1 := veval_of (hdp 7 (by decide) _ rfl)
      exact wpOp_of _ rfl rfl (v_move (.tmp 229) _ rfl e1 ⟨rfl, rfl⟩)
    | 9, hx =>
      obtain rfl := Option.some.inj hx
      have e1 := (hdp 8 (by decide) _ rfl)
      exact wpOp_no _ rfl 8 _ rfl 230 rfl rfl e1 ⟨rfl, rfl⟩
    | 10, hx =>
      obtain rfl := Option.some.inj hx
      have e1 := (hdp 8 (by decide) _ rfl)
      exact wpOp_no _ rfl 8 _ rfl 230 rfl rfl e1 ⟨rfl, rfl⟩
    | 11, hx =>
      obtain rfl := Option.some.inj hx
      have e1 := (hdp 8 (by decide) _ rfl)
      exact wpOp_no _ rfl 8 _ rfl 230 rfl rfl e1 ⟨rfl, rfl⟩
    | 12, hx =>
      obtain rfl := Option.some.inj hx
      have e1 := (hdp 8 (by decide) _ rfl)
      exact wpOp_no _ rfl 8 _ rfl 230 rfl rfl e1 ⟨rfl, rfl⟩
    | 13, hx =>
      obtain rfl := Option.some.inj hx
      have e1 := (hdp 8 (by decide) _ rfl)
      exact wpOp_no _ rfl 8 _ rfl 230 rfl rfl e1 ⟨rfl, rfl⟩
    | 14, hx =>
      obtain rfl := Option.some.inj hx
      have e1 := (hdp 8 (by decide) _ rfl)
      exact wpOp_no _ rfl 8 _ rfl 230 rfl rfl e1 ⟨rfl, rfl⟩
    | 15, hx =>
      obtain rfl := Option.some.inj hx
      have e1 := (hdp 8 (by decide) _ rfl)
      exact wpOp_no _ rfl 8 _ rfl 230 rfl rfl e1 ⟨rfl, rfl⟩
    | 16, hx =>
      obtain rfl := Option.some.inj hx
      have e1 := (hdp 8 (by decide) _ rfl)
      exact wpOp_no _ rfl 8 _ rfl 230 rfl rfl e1 ⟨rfl, rfl⟩
    | 17, hx =>
      obtain rfl := Option.some.inj hx
      have e1 := (hdp 8 (by decide) _ rfl)
      exact wpOp_no _ rfl 8 _ rfl 230 rfl rfl e1 ⟨rfl, rfl⟩
    | 18, hx =>
      obtain rfl := Option.some.inj hx
      have e1 := (hdp 8 (by decide) _ rfl)
      exact wpOp_no _ rfl 8 _ rfl 230 rfl rfl e1 ⟨rfl, rfl⟩
    | 19, hx =>
      obtain rfl := Option.some.inj hx
      have e1 := veval_of (hdp 8 (by decide) _ rfl)
      exact wpOp_of _ rfl rfl (v_pickF (.tmp 230) (.tmp 240) _ rfl e1 ⟨rfl, rfl⟩)
    | 20, hx =>
      obtain rfl := Option.some.inj hx
      have e1 := veval_of (hdp 19 (by decide) _ rfl)
      refine wpOp_of _ rfl rfl (v_call 40 _ _ rfl _ Try.func40 (by kernel_rfl) (by kernel_rfl) #[.bool false] (by simp [e1]) ((truth_c false w.drew).mono ?_))
      rintro e w2 ⟨rfl, rfl⟩
      exact ⟨_, rfl, rfl, rfl⟩
    | 21, hx =>
      obtain rfl := Option.some.inj hx
      have e1 := veval_of (hdp 3 (by decide) _ rfl)
      have e2 := veval_of (hdp 5 (by decide) _ rfl)
      exact wpOp_of _ rfl rfl (v_index35 (.tmp 225) (.tmp 227) _ _ _ _ C rfl e1 e2 hCN ⟨rfl, rfl⟩)
    | i + 22, hx => simp [r31L] at hx
  · intro W hJ
    subst hJ
    obtain ⟨u, hu⟩ := hu
    have k1 : (lay a0 (r31L gS gC gQ N cap C n0)).tmps[243]? = some (.pointer (some ⟨gC, 0 + C, none⟩)) := lay_at _ a0 hnd hs2 (243, .pointer (some ⟨gC, 0 + C, none⟩)) (List.mem_of_getElem? (i := 21) rfl)
    have k2 : (lay a0 (r31L gS gC gQ N cap C n0)).tmps[242]? = some (.int .u64 0) := lay_at _ a0 hnd hs2 (242, .int .u64 0) (List.mem_of_getElem? (i := 20) rfl)
    generalize lay a0 (r31L gS gC gQ N cap C n0) = A at *
    show wpOps Try.prog r31 Q [22] A w.drew
    rw [wpOps_cons]
    exact wpOp_of _ rfl rfl (v_store28 (.tmp 243) (.tmp 242) _ _ _ u rfl rfl (veval_of k1) (veval_of k2) hu hf hend)
def r57a : Array Oper := #[{ dst := some 449, op := Go.Op.move (Go.Operand.tmp 29), type := 28, pos := "interpm.go:180", after := #[], guard := none }, { dst := some 450, op := Go.Op.binOp Go.BinOp.eql 28 (Go.Operand.tmp 449) (Go.Operand.const (Go.Value.int Go.IntKind.u64 1)) 28, type := 4, pos := "interpm.go:180", after := #[{ on := 0, ground := Go.Ground.data }], guard := none }, { dst := some 451, op := Go.Op.move (Go.Operand.tmp 450), type := 4, pos := "interpm.go:180", after := #[{ on := 1, ground := Go.Ground.data }], guard := none }, { dst := some 452, op := Go.Op.move (Go.Operand.tmp 2), type := 59, pos := "interpm.go:180", after := #[{ on := 2, ground := Go.Ground.guard }], guard := some (2, true) }, { dst := some 453, op := Go.Op.nilCheck (Go.Operand.tmp 452), type := 0, pos := "interpm.go:180", after := #[{ on := 3, ground := Go.Ground.data }, { on := 2, ground := Go.Ground.guard }], guard := some (2, true) }, { dst := some 454, op := Go.Op.fieldAddr 37 (Go.Operand.tmp 453) 0, type := 0, pos := "interpm.go:180", after := #[{ on := 4, ground := Go.Ground.data }, { on := 2, ground := Go.Ground.guard }], guard := some (2, true) }, { dst := some 455, op := Go.Op.load 35 (Go.Operand.tmp 454), type := 35, pos := "interpm.go:180", after := #[{ on := 5, ground := Go.Ground.data }, { on := 2, ground := Go.Ground.guard }], guard := some (2, true) }, { dst := some 456, op := Go.Op.fieldAddr 109 (Go.Operand.tmp 7) 1, type := 0, pos := "interpm.go:180", after := #[{ on := 2, ground := Go.Ground.guard }], guard := some (2, true) }, { dst := some 457, op := Go.Op.load 3 (Go.Operand.tmp 456), type := 3, pos := "interpm.go:180", after := #[{ on := 7, ground := Go.Ground.data }, { on := 2, ground := Go.Ground.guard }], guard := some (2, true) }, { dst := some 458, op := Go.Op.binOp Go.BinOp.add 3 (Go.Operand.tmp 457) (Go.Operand.const (Go.Value.int Go.IntKind.i64 2)) 3, type := 3, pos := "interpm.go:180", after := #[{ on := 8, ground := Go.Ground.data }, { on := 2, ground := Go.Ground.guard }], guard := some (2, true) }, { dst := some 459, op := Go.Op.indexAddr 35 (Go.Operand.tmp 455) (Go.Operand.tmp 458), type := 0, pos := "interpm.go:180", after := #[{ on := 6, ground := Go.Ground.data }, { on := 9, ground := Go.Ground.data }, { on := 2, ground := Go.Ground.guard }], guard := some (2, true) }, { dst := some 460, op := Go.Op.load 28 (Go.Operand.tmp 459), type := 28, pos := "interpm.go:180", after := #[{ on := 10, ground := Go.Ground.data }, { on := 2, ground := Go.Ground.guard }], guard := some (2, true) }, { dst := some 461, op := Go.Op.binOp Go.BinOp.eql 28 (Go.Operand.tmp 460) (Go.Operand.const (Go.Value.int Go.IntKind.u64 0)) 28, type := 4, pos := "interpm.go:180", after := #[{ on := 11, ground := Go.Ground.data }, { on := 2, ground := Go.Ground.guard }], guard := some (2, true) }, { dst := some 462, op := Go.Op.pick (Go.Operand.tmp 451) (Go.Operand.tmp 461) (Go.Operand.const (Go.Value.bool false)), type := 4, pos := "interpm.go:180", after := #[{ on := 2, ground := Go.Ground.data }, { on := 12, ground := Go.Ground.data }], guard := none }, { dst := some 463, op := Go.Op.move (Go.Operand.tmp 462), type := 4, pos := "interpm.go:180", after := #[{ on := 13, ground := Go.Ground.data }, { on := 2, ground := Go.Ground.chain }], guard := none }, { dst := some 464, op := Go.Op.move (Go.Operand.tmp 36), type := 28, pos := "interpm.go:180", after := #[{ on := 14, ground := Go.Ground.guard }], guard := some (14, true) }, { dst := some 465, op := Go.Op.move (Go.Operand.tmp 35), type := 3, pos := "interpm.go:180", after := #[{ on := 14, ground := Go.Ground.guard }], guard := some (14, true) }, { dst := some 466, op := Go.Op.call { callee := Go.Callee.value (Go.Operand.func 41), args := #[Go.Operand.tmp 465], argTypes := #[3] }, type := 28, pos := "interpm.go:180", after := #[{ on := 16, ground := Go.Ground.data }, { on := 14, ground := Go.Ground.chain }, { on := 14, ground := Go.Ground.guard }], guard := some (14, true) }, { dst := some 467, op := Go.Op.binOp Go.BinOp.neq 28 (Go.Operand.tmp 464) (Go.Operand.tmp 466) 28, type := 4, pos := "interpm.go:180", after := #[{ on := 15, ground := Go.Ground.data }, { on := 17, ground := Go.Ground.data }, { on := 14, ground := Go.Ground.guard }], guard := some (14, true) }, { dst := some 468, op := Go.Op.pick (Go.Operand.tmp 463) (Go.Operand.tmp 467) (Go.Operand.const (Go.Value.bool false)), type := 4, pos := "interpm.go:180", after := #[{ on := 14, ground := Go.Ground.data }, { on := 18, ground := Go.Ground.data }], guard := none }]
def r57aL (n0 : Int) : List (Nat × Value) := [(449, .int .u64 n0), (450, .bool false), (451, .bool false), (452, undef), (453, undef), (454, undef), (455, undef), (456, undef), (457, undef), (458, undef), (459, undef), (460, undef), (461, undef), (462, .bool false), (463, .bool false), (464, undef), (465, undef), (466, undef), (467, undef), (468, .bool false)]
theorem r57a_chk : chk r57a 20 = true := by kernel_rfl
set_option maxRecDepth 4000 in
set_option maxHeartbeats 4000000 in
theorem r57a_c {Q : Exit → Act → World → Prop} {a0 : Act} {w : World} (n0 : Int) (hz0 : a0.tmps.size = 523)
    (h29 : a0.tmps[29]? = some (.int .u64 n0))
    (hn0 : (n0 == 1) = false)
    (hend : Q .normal (lay a0 (r57aL n0)) w.drew) :
    (Code.region 57 r57a true).wp Try.prog Q a0 w := by
  have o29 : ∀ a : Act, (∀ t, t ∉ (r57aL n0).map Prod.fst → a.tmps[t]? = a0.tmps[t]?) → a.eval (.tmp 29) = .int .u64 n0 := fun a hot => veval_of ((hot 29 (by rw [show (r57aL n0).map Prod.fst = [449, 450, 451, 452, 453, 454, 455, 456, 457, 458, 459, 460, 461, 462, 463, 464, 465, 466, 467, 468] from rfl]; decide)).trans h29)
  have hs2 : ∀ x ∈ r57aL n0, x.1 < a0.tmps.size := by
    intro x hx
    have hx1 : x.1 ∈ (r57aL n0).map Prod.fst := List.mem_map_of_mem hx
    rw [show (r57aL n0).map Prod.fst = [449, 450, 451, 452, 453, 454, 455, 456, 457, 458, 459, 460, 461, 462, 463, 464, 465, 466, 467, 468] from rfl] at hx1
    rw [hz0]
    have : ∀ y ∈ [449, 450, 451, 452, 453, 454, 455, 456, 457, 458, 459, 460, 461, 462, 463, 464, 465, 466, 467, 468], y < 523 := by decide
    exact this _ hx1
  have hnd : ((r57aL n0).map Prod.fst).Nodup := by
    rw [show (r57aL n0).map Prod.fst = [449, 450, 451, 452, 453, 454, 455, 456, 457, 458, 459, 460, 461, 462, 463, 464, 465, 466, 467, 468] from rfl]; decide
  refine wp_region_vals (by rfl) 20 (r57aL n0) rfl (by decide) r57a_chk hnd hs2 (fun W => W = w.drew) rfl ?_ ?_
  · intro i x hx a w' hJ hot hdp
    subst hJ
    match i, hx with
    | 0, hx =>
      obtain rfl := Option.some.inj hx
      have e1 := o29 a hot
      exact wpOp_of _ rfl rfl (v_move (.tmp 29) _ rfl e1 ⟨rfl, rfl⟩)
    | 1, hx =>
      obtain rfl := Option.some.inj hx
      have e1 := veval_of (hdp 0 (by decide) _ rfl)
      exact wpOp_of _ rfl rfl (v_eql28 (.tmp 449) _ _ _ rfl e1 hn0 ⟨rfl, rfl⟩)
    | 2, hx =>
      obtain rfl := Option.some.inj hx
      have e1 := veval_of (hdp 1 (by decide) _ rfl)
      exact wpOp_of _ rfl rfl (v_move (.tmp 450) _ rfl e1 ⟨rfl, rfl⟩)
    | 3, hx =>
      obtain rfl := Option.some.inj hx
      have e1 := (hdp 2 (by decide) _ rfl)
      exact wpOp_no _ rfl 2 _ rfl 451 rfl rfl e1 ⟨rfl, rfl⟩
    | 4, hx =>
      obtain rfl := Option.some.inj hx
      have e1 := (hdp 2 (by decide) _ rfl)
      exact wpOp_no _ rfl 2 _ rfl 451 rfl rfl e1 ⟨rfl, rfl⟩
    | 5, hx =>
      obtain rfl := Option.some.inj hx
      have e1 := (hdp 2 (by decide) _ rfl)
      exact wpOp_no _ rfl 2 _ rfl 451 rfl rfl e1 ⟨rfl, rfl⟩
    | 6, hx =>
      obtain rfl := Option.some.inj hx
      have e1 := (hdp 2 (by decide) _ rfl)
      exact wpOp_no _ rfl 2 _ rfl 451 rfl rfl e1 ⟨rfl, rfl⟩
    | 7, hx =>
      obtain rfl := Option.some.inj hx
      have e1 := (hdp 2 (by decide) _ rfl)
      exact wpOp_no _ rfl 2 _ rfl 451 rfl rfl e1 ⟨rfl, rfl⟩
    | 8, hx =>
      obtain rfl := Option.some.inj hx
      have e1 := (hdp 2 (by decide) _ rfl)
      exact wpOp_no _ rfl 2 _ rfl 451 rfl rfl e1 ⟨rfl, rfl⟩
    | 9, hx =>
      obtain rfl := Option.some.inj hx
      have e1 := (hdp 2 (by decide) _ rfl)
      exact wpOp_no _ rfl 2 _ rfl 451 rfl rfl e1 ⟨rfl, rfl⟩
    | 10, hx =>
      obtain rfl := Option.some.inj hx
      have e1 := (hdp 2 (by decide) _ rfl)
      exact wpOp_no _ rfl 2 _ rfl 451 rfl rfl e1 ⟨rfl, rfl⟩
    | 11, hx =>
      obtain rfl := Option.some.inj hx
      have e1 := (hdp 2 (by decide) _ rfl)
      exact wpOp_no _ rfl 2 _ rfl 451 rfl rfl e1 ⟨rfl, rfl⟩
    | 12, hx =>
      obtain rfl := Option.some.inj hx
      have e1 := (hdp 2 (by decide) _ rfl)
      exact wpOp_no _ rfl 2 _ rfl 451 rfl rfl e1 ⟨rfl, rfl⟩
    | 13, hx =>
      obtain rfl := Option.some.inj hx
      have e1 := veval_of (hdp 2 (by decide) _ rfl)
      exact wpOp_of _ rfl rfl (v_pickF (.tmp 451) (.tmp 461) _ rfl e1 ⟨rfl, rfl⟩)
    | 14, hx =>
      obtain rfl := Option.some.inj hx
      have e1 := veval_of (hdp 13 (by decide) _ rfl)
      exact wpOp_of _ rfl rfl (v_move (.tmp 462) _ rfl e1 ⟨rfl, rfl⟩)
    | 15, hx =>
      obtain rfl := Option.some.inj hx
      have e1 := (hdp 14 (by decide) _ rfl)
      exact wpOp_no _ rfl 14 _ rfl 463 rfl rfl e1 ⟨rfl, rfl⟩
    | 16, hx =>
      obtain rfl := Option.some.inj hx
      have e1 := (hdp 14 (by decide) _ rfl)
      exact wpOp_no _ rfl 14 _ rfl 463 rfl rfl e1 ⟨rfl, rfl⟩
    | 17, hx =>
      obtain rfl := Option.some.inj hx
      have e1 := (hdp 14 (by decide) _ rfl)
      exact wpOp_no _ rfl 14 _ rfl 463 rfl rfl e1 ⟨rfl, rfl⟩
    | 18, hx =>
      obtain rfl := Option.some.inj hx
      have e1 := (hdp 14 (by decide) _ rfl)
      exact wpOp_no _ rfl 14 _ rfl 463 rfl rfl e1 ⟨rfl, rfl⟩
    | 19, hx =>
      obtain rfl := Option.some.inj hx
      have e1 := veval_of (hdp 14 (by decide) _ rfl)
      exact wpOp_of _ rfl rfl (v_pickF (.tmp 463) (.tmp 467) _ rfl e1 ⟨rfl, rfl⟩)
    | i + 20, hx => simp [r57aL] at hx
  · intro W hJ
    subst hJ
    show wpOps Try.prog r57a Q [] _ w.drew
    exact hend
def r57b : Array Oper := #[{ dst := some 449, op := Go.Op.move (Go.Operand.tmp 29), type := 28, pos := "interpm.go:180", after := #[], guard := none }, { dst := some 450, op := Go.Op.binOp Go.BinOp.eql 28 (Go.Operand.tmp 449) (Go.Operand.const (Go.Value.int Go.IntKind.u64 1)) 28, type := 4, pos := "interpm.go:180", after := #[{ on := 0, ground := Go.Ground.data }], guard := none }, { dst := some 451, op := Go.Op.move (Go.Operand.tmp 450), type := 4, pos := "interpm.go:180", after := #[{ on := 1, ground := Go.Ground.data }], guard := none }, { dst := some 452, op := Go.Op.move (Go.Operand.tmp 2), type := 59, pos := "interpm.go:180", after := #[{ on := 2, ground := Go.Ground.guard }], guard := some (2, true) }, { dst := some 453, op := Go.Op.nilCheck (Go.Operand.tmp 452), type := 0, pos := "interpm.go:180", after := #[{ on := 3, ground := Go.Ground.data }, { on := 2, ground := Go.Ground.guard }], guard := some (2, true) }, { dst := some 454, op := Go.Op.fieldAddr 37 (Go.Operand.tmp 453) 0, type := 0, pos := "interpm.go:180", after := #[{ on := 4, ground := Go.Ground.data }, { on := 2, ground := Go.Ground.guard }], guard := some (2, true) }, { dst := some 455, op := Go.Op.load 35 (Go.Operand.tmp 454), type := 35, pos := "interpm.go:180", after := #[{ on := 5, ground := Go.Ground.data }, { on := 2, ground := Go.Ground.guard }], guard := some (2, true) }, { dst := some 456, op := Go.Op.fieldAddr 109 (Go.Operand.tmp 7) 1, type := 0, pos := "interpm.go:180", after := #[{ on := 2, ground := Go.Ground.guard }], guard := some (2, true) }, { dst := some 457, op := Go.Op.load 3 (Go.Operand.tmp 456), type := 3, pos := "interpm.go:180", after := #[{ on := 7, ground := Go.Ground.data }, { on := 2, ground := Go.Ground.guard }], guard := some (2, true) }, { dst := some 458, op := Go.Op.binOp Go.BinOp.add 3 (Go.Operand.tmp 457) (Go.Operand.const (Go.Value.int Go.IntKind.i64 2)) 3, type := 3, pos := "interpm.go:180", after := #[{ on := 8, ground := Go.Ground.data }, { on := 2, ground := Go.Ground.guard }], guard := some (2, true) }, { dst := some 459, op := Go.Op.indexAddr 35 (Go.Operand.tmp 455) (Go.Operand.tmp 458), type := 0, pos := "interpm.go:180", after := #[{ on := 6, ground := Go.Ground.data }, { on := 9, ground := Go.Ground.data }, { on := 2, ground := Go.Ground.guard }], guard := some (2, true) }, { dst := some 460, op := Go.Op.load 28 (Go.Operand.tmp 459), type := 28, pos := "interpm.go:180", after := #[{ on := 10, ground := Go.Ground.data }, { on := 2, ground := Go.Ground.guard }], guard := some (2, true) }, { dst := some 461, op := Go.Op.binOp Go.BinOp.eql 28 (Go.Operand.tmp 460) (Go.Operand.const (Go.Value.int Go.IntKind.u64 0)) 28, type := 4, pos := "interpm.go:180", after := #[{ on := 11, ground := Go.Ground.data }, { on := 2, ground := Go.Ground.guard }], guard := some (2, true) }, { dst := some 462, op := Go.Op.pick (Go.Operand.tmp 451) (Go.Operand.tmp 461) (Go.Operand.const (Go.Value.bool false)), type := 4, pos := "interpm.go:180", after := #[{ on := 2, ground := Go.Ground.data }, { on := 12, ground := Go.Ground.data }], guard := none }, { dst := some 463, op := Go.Op.move (Go.Operand.tmp 462), type := 4, pos := "interpm.go:180", after := #[{ on := 13, ground := Go.Ground.data }, { on := 2, ground := Go.Ground.chain }], guard := none }, { dst := some 464, op := Go.Op.move (Go.Operand.tmp 36), type := 28, pos := "interpm.go:180", after := #[{ on := 14, ground := Go.Ground.guard }], guard := some (14, true) }, { dst := some 465, op := Go.Op.move (Go.Operand.tmp 35), type := 3, pos := "interpm.go:180", after := #[{ on := 14, ground := Go.Ground.guard }], guard := some (14, true) }, { dst := some 466, op := Go.Op.call { callee := Go.Callee.value (Go.Operand.func 41), args := #[Go.Operand.tmp 465], argTypes := #[3] }, type := 28, pos := "interpm.go:180", after := #[{ on := 16, ground := Go.Ground.data }, { on := 14, ground := Go.Ground.chain }, { on := 14, ground := Go.Ground.guard }], guard := some (14, true) }, { dst := some 467, op := Go.Op.binOp Go.BinOp.neq 28 (Go.Operand.tmp 464) (Go.Operand.tmp 466) 28, type := 4, pos := "interpm.go:180", after := #[{ on := 15, ground := Go.Ground.data }, { on := 17, ground := Go.Ground.data }, { on := 14, ground := Go.Ground.guard }], guard := some (14, true) }, { dst := some 468, op := Go.Op.pick (Go.Operand.tmp 463) (Go.Operand.tmp 467) (Go.Operand.const (Go.Value.bool false)), type := 4, pos := "interpm.go:180", after := #[{ on := 14, ground := Go.Ground.data }, { on := 18, ground := Go.Ground.data }], guard := none }]
def r57bL (gS gC gQ N cap C C2 : Nat) (n0 m0 : Int) : List (Nat × Value) := [(449, .int .u64 n0), (450, .bool true), (451, .bool true), (452, .pointer (some ⟨gS, 0, none⟩)), (453, .pointer (some ⟨gS, 0, none⟩)), (454, .pointer (some ⟨gS, 0, none⟩)), (455, .slice (some ⟨gC, 0, none⟩) N cap), (456, .pointer (some ⟨gQ, 1, none⟩)), (457, .int .i64 ((C : Nat) : Int)), (458, .int .i64 ((C2 : Nat) : Int)), (459, .pointer (some ⟨gC, 0 + C2, none⟩)), (460, .int .u64 m0), (461, .bool false), (462, .bool false), (463, .bool false), (464, undef), (465, undef), (466, undef), (467, undef), (468, .bool false)]
theorem r57b_chk : chk r57b 20 = true := by kernel_rfl
set_option maxRecDepth 4000 in
set_option maxHeartbeats 4000000 in
theorem r57b_c {Q : Exit → Act → World → Prop} {a0 : Act} {w : World} (gS gC gQ N cap C C2 : Nat) (n0 m0 : Int) (hz0 : a0.tmps.size = 523)
    (h2 : a0.tmps[2]? = some (.pointer (some ⟨gS, 0, none⟩))) (h7 : a0.tmps[7]? = some (.pointer (some ⟨gQ, 0, none⟩))) (h29 : a0.tmps[29]? = some (.int .u64 n0))
    (hn0 : (n0 == 1) = true) (hm0 : (m0 == 0) = false) (hC2 : IntKind.i64.wrap (((C : Nat) : Int) + 2) = ((C2 : Nat) : Int)) (hCN : C2 < N) (hc0 : w.drew.cell? ⟨gS, 0, none⟩ = some (.slice (some ⟨gC, 0, none⟩) N cap)) (hq1 : w.drew.cell? ⟨gQ, 1, none⟩ = some (.int .i64 ((C : Nat) : Int))) (hm : w.drew.cell? ⟨gC, 0 + C2, none⟩ = some (.int .u64 m0))
    (hend : Q .normal (lay a0 (r57bL gS gC gQ N cap C C2 n0 m0)) w.drew) :
    (Code.region 57 r57b true).wp Try.prog Q a0 w := by
  have o2 : ∀ a : Act, (∀ t, t ∉ (r57bL gS gC gQ N cap C C2 n0 m0).map Prod.fst → a.tmps[t]? = a0.tmps[t]?) → a.eval (.tmp 2) = .pointer (some ⟨gS, 0, none⟩) := fun a hot => veval_of ((hot 2 (by rw [show (r57bL gS gC gQ N cap C C2 n0 m0).map Prod.fst = [449, 450, 451, 452, 453, 454, 455, 456, 457, 458, 459, 460, 461, 462, 463, 464, 465, 466, 467, 468] from rfl]; decide)).trans h2)
  have o7 : ∀ a : Act, (∀ t, t ∉ (r57bL gS gC gQ N cap C C2 n0 m0).map Prod.fst → a.tmps[t]? = a0.tmps[t]?) → a.eval (.tmp 7) = .pointer (some ⟨gQ, 0, none⟩) := fun a hot => veval_of ((hot 7 (by rw [show (r57bL gS gC gQ N cap C C2 n0 m0).map Prod.fst = [449, 450, 451, 452, 453, 454, 455, 456, 457, 458, 459, 460, 461, 462, 463, 464, 465, 466, 467, 468] from rfl]; decide)).trans h7)
  have o29 : ∀ a : Act, (∀ t, t ∉ (r57bL gS gC gQ N cap C C2 n0 m0).map Prod.fst → a.tmps[t]? = a0.tmps[t]?) → a.eval (.tmp 29) = .int .u64 n0 := fun a hot => veval_of ((hot 29 (by rw [show (r57bL gS gC gQ N cap C C2 n0 m0).map Prod.fst = [449, 450, 451, 452, 453, 454, 455, 456, 457, 458, 459, 460, 461, 462, 463, 464, 465, 466, 467, 468] from rfl]; decide)).trans h29)
  have hs2 : ∀ x ∈ r57bL gS gC gQ N cap C C2 n0 m0, x.1 < a0.tmps.size := by
    intro x hx
    have hx1 : x.1 ∈ (r57bL gS gC gQ N cap C C2 n0 m0).map Prod.fst := List.mem_map_of_mem hx
    rw [show (r57bL gS gC gQ N cap C C2 n0 m0).map Prod.fst = [449, 450, 451, 452, 453, 454, 455, 456, 457, 458, 459, 460, 461, 462, 463, 464, 465, 466, 467, 468] from rfl] at hx1
    rw [hz0]
    have : ∀ y ∈ [449, 450, 451, 452, 453, 454, 455, 456, 457, 458, 459, 460, 461, 462, 463, 464, 465, 466, 467, 468], y < 523 := by decide
    exact this _ hx1
  have hnd : ((r57bL gS gC gQ N cap C C2 n0 m0).map Prod.fst).Nodup := by
    rw [show (r57bL gS gC gQ N cap C C2 n0 m0).map Prod.fst = [449, 450, 451, 452, 453, 454, 455, 456, 457, 458, 459, 460, 461, 462, 463, 464, 465, 466, 467, 468] from rfl]; decide
  refine wp_region_vals (by rfl) 20 (r57bL gS gC gQ N cap C C2 n0 m0) rfl (by decide) r57b_chk hnd hs2 (fun W => W = w.drew) rfl ?_ ?_
  · intro i x hx a w' hJ hot hdp
    subst hJ
    match i, hx with
    | 0, hx =>
      obtain rfl := Option.some.inj hx
      have e1 := o29 a hot
      exact wpOp_of _ rfl rfl (v_move (.tmp 29) _ rfl e1 ⟨rfl, rfl⟩)
    | 1, hx =>
      obtain rfl := Option.some.inj hx
      have e1 := veval_of (hdp 0 (by decide) _ rfl)
      exact wpOp_of _ rfl rfl (v_eql28 (.tmp 449) _ _ _ rfl e1 hn0 ⟨rfl, rfl⟩)
    | 2, hx =>
      obtain rfl := Option.some.inj hx
      have e1 := veval_of (hdp 1 (by decide) _ rfl)
      exact wpOp_of _ rfl rfl (v_move (.tmp 450) _ rfl e1 ⟨rfl, rfl⟩)
    | 3, hx =>
      obtain rfl := Option.some.inj hx
      have e1 := o2 a hot
      have eg := (hdp 2 (by decide) _ rfl)
      exact wpOp_yes _ rfl 2 _ rfl 451 rfl rfl eg (v_move (.tmp 2) _ rfl e1 ⟨rfl, rfl⟩)
    | 4, hx =>
      obtain rfl := Option.some.inj hx
      have e1 := veval_of (hdp 3 (by decide) _ rfl)
      have eg := (hdp 2 (by decide) _ rfl)
      exact wpOp_yes _ rfl 2 _ rfl 451 rfl rfl eg (v_nil (.tmp 452) _ rfl e1 ⟨rfl, rfl⟩)
    | 5, hx =>
      obtain rfl := Option.some.inj hx
      have e1 := veval_of (hdp 4 (by decide) _ rfl)
      have eg := (hdp 2 (by decide) _ rfl)
      exact wpOp_yes _ rfl 2 _ rfl 451 rfl rfl eg (v_f37 (.tmp 453) _ rfl e1 ⟨rfl, rfl⟩)
    | 6, hx =>
      obtain rfl := Option.some.inj hx
      have e1 := veval_of (hdp 5 (by decide) _ rfl)
      have eg := (hdp 2 (by decide) _ rfl)
      exact wpOp_yes _ rfl 2 _ rfl 451 rfl rfl eg (v_load35 (.tmp 454) _ _ _ rfl e1 hc0 ⟨rfl, rfl⟩)
    | 7, hx =>
      obtain rfl := Option.some.inj hx
      have e1 := o7 a hot
      have eg := (hdp 2 (by decide) _ rfl)
      exact wpOp_yes _ rfl 2 _ rfl 451 rfl rfl eg (v_f109 (.tmp 7) _ rfl e1 ⟨rfl, rfl⟩)
    | 8, hx =>
      obtain rfl := Option.some.inj hx
      have e1 := veval_of (hdp 7 (by decide) _ rfl)
      have eg := (hdp 2 (by decide) _ rfl)
      exact wpOp_yes _ rfl 2 _ rfl 451 rfl rfl eg (v_load3 (.tmp 456) _ _ _ rfl e1 hq1 ⟨rfl, rfl⟩)
    | 9, hx =>
      obtain rfl := Option.some.inj hx
      have e1 := veval_of (hdp 8 (by decide) _ rfl)
      have eg := (hdp 2 (by decide) _ rfl)
      exact wpOp_yes _ rfl 2 _ rfl 451 rfl rfl eg (v_addi (.tmp 457) (.const (.int .i64 2)) _ _ _ rfl e1 rfl hC2 ⟨rfl, rfl⟩)
    | 10, hx =>
      obtain rfl := Option.some.inj hx
      have e1 := veval_of (hdp 6 (by decide) _ rfl)
      have e2 := veval_of (hdp 9 (by decide) _ rfl)
      have eg := (hdp 2 (by decide) _ rfl)
      exact wpOp_yes _ rfl 2 _ rfl 451 rfl rfl eg (v_index35 (.tmp 455) (.tmp 458) _ _ _ _ C2 rfl e1 e2 hCN ⟨rfl, rfl⟩)
    | 11, hx =>
      obtain rfl := Option.some.inj hx
      have e1 := veval_of (hdp 10 (by decide) _ rfl)
      have eg := (hdp 2 (by decide) _ rfl)
      exact wpOp_yes _ rfl 2 _ rfl 451 rfl rfl eg (v_load28 (.tmp 459) _ _ _ rfl e1 hm ⟨rfl, rfl⟩)
    | 12, hx =>
      obtain rfl := Option.some.inj hx
      have e1 := veval_of (hdp 11 (by decide) _ rfl)
      have eg := (hdp 2 (by decide) _ rfl)
      exact wpOp_yes _ rfl 2 _ rfl 451 rfl rfl eg (v_eql28 (.tmp 460) _ _ _ rfl e1 hm0 ⟨rfl, rfl⟩)
    | 13, hx =>
      obtain rfl := Option.some.inj hx
      have e1 := veval_of (hdp 2 (by decide) _ rfl)
      have e2 := veval_of (hdp 12 (by decide) _ rfl)
      exact wpOp_of _ rfl rfl (v_pickT (.tmp 451) (.tmp 461) _ _ rfl e1 e2 ⟨rfl, rfl⟩)
    | 14, hx =>
      obtain rfl := Option.some.inj hx
      have e1 := veval_of (hdp 13 (by decide) _ rfl)
      exact wpOp_of _ rfl rfl (v_move (.tmp 462) _ rfl e1 ⟨rfl, rfl⟩)
    | 15, hx =>
      obtain rfl := Option.some.inj hx
      have e1 := (hdp 14 (by decide) _ rfl)
      exact wpOp_no _ rfl 14 _ rfl 463 rfl rfl e1 ⟨rfl, rfl⟩
    | 16, hx =>
      obtain rfl := Option.some.inj hx
      have e1 := (hdp 14 (by decide) _ rfl)
      exact wpOp_no _ rfl 14 _ rfl 463 rfl rfl e1 ⟨rfl, rfl⟩
    | 17, hx =>
      obtain rfl := Option.some.inj hx
      have e1 := (hdp 14 (by decide) _ rfl)
      exact wpOp_no _ rfl 14 _ rfl 463 rfl rfl e1 ⟨rfl, rfl⟩
    | 18, hx =>
      obtain rfl := Option.some.inj hx
      have e1 := (hdp 14 (by decide) _ rfl)
      exact wpOp_no _ rfl 14 _ rfl 463 rfl rfl e1 ⟨rfl, rfl⟩
    | 19, hx =>
      obtain rfl := Option.some.inj hx
      have e1 := veval_of (hdp 14 (by decide) _ rfl)
      exact wpOp_of _ rfl rfl (v_pickF (.tmp 463) (.tmp 467) _ rfl e1 ⟨rfl, rfl⟩)
    | i + 20, hx => simp [r57bL] at hx
  · intro W hJ
    subst hJ
    show wpOps Try.prog r57b Q [] _ w.drew
    exact hend
end Go.Proofs.Qxb6500772a
