/- The law's last region: two dumps in any order. -/
import Derived.Test.Qxb6500767aVd
namespace Go.Proofs.Qxb6500767a
open Go Go.RowKit Go.Qm
set_option linter.unusedVariables false
set_option linter.unusedSimpArgs false
section
variable {o : Oper} {a : Act} {w : World} {K : Act → World → Prop} {Q : Exit → Act → World → Prop}
theorem v_fieldZ (t : TypeId) (x : Operand) (g : Nat) (ht : t = 43 ∨ t = 46) (ho : o.op = .fieldAddr t x 0) (hx : a.eval x = .pointer (some ⟨g, 0, none⟩)) (h : K (a.put o.dst (.pointer (some ⟨g, 0, none⟩))) w) : o.wp Try.prog a w K Q := by
  have e : (Instr.fieldAt t (.pointer (some ⟨g, 0, none⟩)) 0).run Try.prog w = .ok (.pointer (some ⟨g, 0, none⟩)) w := by
    rcases ht with e | e
    · rw [e]; simp [go_sem]
    · rw [e]; simp [go_sem]
  unfold Oper.wp execOp
  simp only [ho, hx, Sem.run_bind, Result.andThen_ok, e, Sem.run_pure]
  exact h
theorem v_load40 (x : Operand) (g k : Nat) (v : Value) (ho : o.op = .load 40 x) (hx : a.eval x = .pointer (some ⟨g, k, none⟩)) (hc : w.cell? ⟨g, k, none⟩ = some v) (h : K (a.put o.dst v) w) : o.wp Try.prog a w K Q := by
  unfold Oper.wp execOp
  simp only [ho, hx]
  simp [go_sem, hc]
  exact h
theorem v_eql (x y : Operand) (l : List UInt8) (ho : o.op = .binOp .eql 9 x y 9) (hx : a.eval x = str l) (hy : a.eval y = str l) (h : K (a.put o.dst (.bool true)) w) : o.wp Try.prog a w K Q := by
  have e2 : (binOp .eql 9 (str l) (str l)).run Try.prog w = .ok (.bool true) w := by
    simp [go_sem, str]
  have e3 : (eqGuard .eql 9 x y (str l) (str l)).run Try.prog w = .ok () w := by simp [eqGuard, go_sem, str]
  unfold Oper.wp execOp
  simp only [ho, hx, hy]
  simp only [Sem.run_bind, Sem.run_pure, Result.andThen_ok, e2, e3]
  exact h
end
def oD : Array Oper := #[{ dst := some 37, op := Op.move (Operand.tmp 3), type := 24, pos := "law.go:136", after := #[], guard := none }, { dst := some 38, op := Op.nilCheck (Operand.tmp 37), type := 0, pos := "law.go:136", after := #[{ on := 0, ground := Ground.data }], guard := none }, { dst := some 39, op := Op.fieldAddr 43 (Operand.tmp 38) 0, type := 0, pos := "law.go:136", after := #[{ on := 1, ground := Ground.data }], guard := none }, { dst := some 40, op := Op.load 40 (Operand.tmp 39), type := 40, pos := "law.go:136", after := #[{ on := 2, ground := Ground.data }], guard := none }, { dst := some 41, op := Op.call { callee := Callee.value (Operand.func 17), args := #[Operand.tmp 40], argTypes := #[40] }, type := 9, pos := "law.go:136", after := #[{ on := 3, ground := Ground.data }], guard := none }, { dst := some 42, op := Op.move (Operand.tmp 4), type := 26, pos := "law.go:136", after := #[], guard := none }, { dst := some 43, op := Op.nilCheck (Operand.tmp 42), type := 0, pos := "law.go:136", after := #[{ on := 5, ground := Ground.data }], guard := none }, { dst := some 44, op := Op.fieldAddr 46 (Operand.tmp 43) 0, type := 0, pos := "law.go:136", after := #[{ on := 6, ground := Ground.data }], guard := none }, { dst := some 45, op := Op.load 40 (Operand.tmp 44), type := 40, pos := "law.go:136", after := #[{ on := 7, ground := Ground.data }], guard := none }, { dst := some 46, op := Op.call { callee := Callee.value (Operand.func 17), args := #[Operand.tmp 45], argTypes := #[40] }, type := 9, pos := "law.go:136", after := #[{ on := 8, ground := Ground.data }, { on := 4, ground := Ground.chain }], guard := none }, { dst := some 47, op := Op.binOp BinOp.eql 9 (Operand.tmp 41) (Operand.tmp 46) 9, type := 4, pos := "law.go:136", after := #[{ on := 4, ground := Ground.data }, { on := 9, ground := Ground.data }], guard := none }, { dst := some 2, op := Op.assign (Operand.tmp 47), type := 4, pos := "law.go:136", after := #[{ on := 10, ground := Ground.data }, { on := 9, ground := Ground.chain }, { on := 0, ground := Ground.phase }, { on := 1, ground := Ground.phase }, { on := 2, ground := Ground.phase }, { on := 3, ground := Ground.phase }, { on := 4, ground := Ground.phase }, { on := 5, ground := Ground.phase }, { on := 6, ground := Ground.phase }, { on := 7, ground := Ground.phase }, { on := 8, ground := Ground.phase }, { on := 9, ground := Ground.phase }, { on := 10, ground := Ground.phase }], guard := none }]
def oDL (gw gt gm g2 : Nat) (DM : List UInt8) : List (Nat × Value) := [(37, (.pointer (some ⟨gw, 0, none⟩) : Value)), (38, (.pointer (some ⟨gw, 0, none⟩) : Value)), (39, (.pointer (some ⟨gw, 0, none⟩) : Value)), (40, (.pointer (some ⟨gt, 0, none⟩) : Value)), (41, (str DM)), (42, (.pointer (some ⟨gm, 0, none⟩) : Value)), (43, (.pointer (some ⟨gm, 0, none⟩) : Value)), (44, (.pointer (some ⟨gm, 0, none⟩) : Value)), (45, (.pointer (some ⟨g2, 0, none⟩) : Value)), (46, (str DM)), (47, (.bool true : Value)), (2, (.bool true : Value))]
theorem oD_chk : chk oD 12 = true := by kernel_rfl
theorem oDL_fst (gw gt gm g2 : Nat) (DM : List UInt8) : (oDL gw gt gm g2 DM).map Prod.fst = [37, 38, 39, 40, 41, 42, 43, 44, 45, 46, 47, 2] := rfl
set_option maxRecDepth 4000 in
set_option maxHeartbeats 4000000 in
theorem regionD_c {Q : Exit → Act → World → Prop} {a0 : Act} {w : World} (gw gt gm g2 : Nat) (DM : List UInt8) (h0 : a0.tmps.size = 48)
    (t3 : a0.tmps[3]? = some (.pointer (some ⟨gw, 0, none⟩))) (t4 : a0.tmps[4]? = some (.pointer (some ⟨gm, 0, none⟩))) (c0 : w.cell? ⟨gw, 0, none⟩ = some (.pointer (some ⟨gt, 0, none⟩))) (c1 : w.cell? ⟨gm, 0, none⟩ = some (.pointer (some ⟨g2, 0, none⟩)))
    (H1 : ∀ W, Keep w W → Calls Try.prog 17 #[.pointer (some ⟨gt, 0, none⟩)] W fun e w' => e = .returned (str DM) ∧ Keep W w')
    (H2 : ∀ W, Keep w W → Calls Try.prog 17 #[.pointer (some ⟨g2, 0, none⟩)] W fun e w' => e = .returned (str DM) ∧ Keep W w')
    (hend : ∀ w', Keep w w' → Q .normal (lay a0 (oDL gw gt gm g2 DM)) w') : (Code.region 10 oD true).wp Try.prog Q a0 w := by
  have e3 : ∀ a : Act, (∀ t, t ∉ (oDL gw gt gm g2 DM).map Prod.fst → a.tmps[t]? = a0.tmps[t]?) → a.eval (.tmp 3) = .pointer (some ⟨gw, 0, none⟩) := fun a hot => veval_of ((hot 3 (by rw [oDL_fst]; decide)).trans t3)
  have e4 : ∀ a : Act, (∀ t, t ∉ (oDL gw gt gm g2 DM).map Prod.fst → a.tmps[t]? = a0.tmps[t]?) → a.eval (.tmp 4) = .pointer (some ⟨gm, 0, none⟩) := fun a hot => veval_of ((hot 4 (by rw [oDL_fst]; decide)).trans t4)
  refine wp_region_vals (by rfl) 12 (oDL gw gt gm g2 DM) rfl (by decide) oD_chk (by rw [oDL_fst]; decide) ?_ (fun W => Keep w W) (Keep.refl w).drew ?_ ?_
  · intro x hx
    have hx1 : x.1 ∈ (oDL gw gt gm g2 DM).map Prod.fst := List.mem_map_of_mem hx
    rw [oDL_fst] at hx1
    rw [h0]
    have : ∀ y ∈ [37, 38, 39, 40, 41, 42, 43, 44, 45, 46, 47, 2], y < 48 := by decide
    exact this _ hx1
  · intro i x hx a w' hJ hot hdp
    match i, hx with
    | 0, hx =>
      obtain rfl : (37, (.pointer (some ⟨gw, 0, none⟩) : Value)) = x := Option.some.inj hx
      exact wpOp_of _ rfl rfl (v_move (.tmp 3) _ rfl (e3 a hot) ⟨rfl, hJ⟩)
    | 1, hx =>
      obtain rfl : (38, (.pointer (some ⟨gw, 0, none⟩) : Value)) = x := Option.some.inj hx
      exact wpOp_of _ rfl rfl (v_nil (.tmp 37) _ rfl (veval_of (hdp 0 (by decide) (37, (.pointer (some ⟨gw, 0, none⟩) : Value)) rfl)) ⟨rfl, hJ⟩)
    | 2, hx =>
      obtain rfl : (39, (.pointer (some ⟨gw, 0, none⟩) : Value)) = x := Option.some.inj hx
      exact wpOp_of _ rfl rfl (v_fieldZ 43 (.tmp 38) gw (Or.inl rfl) rfl (veval_of (hdp 1 (by decide) (38, (.pointer (some ⟨gw, 0, none⟩) : Value)) rfl)) ⟨rfl, hJ⟩)
    | 3, hx =>
      obtain rfl : (40, (.pointer (some ⟨gt, 0, none⟩) : Value)) = x := Option.some.inj hx
      exact wpOp_of _ rfl rfl (v_load40 (.tmp 39) gw 0 _ rfl (veval_of (hdp 2 (by decide) (39, (.pointer (some ⟨gw, 0, none⟩) : Value)) rfl)) (hJ.cell c0) ⟨rfl, hJ⟩)
    | 4, hx =>
      obtain rfl : (41, (str DM)) = x := Option.some.inj hx
      refine wpOp_of _ rfl rfl (v_call1 17 (.tmp 40) _ rfl _ Try.func17 (by kernel_rfl) (by kernel_rfl) _ (veval_of (hdp 3 (by decide) (40, (.pointer (some ⟨gt, 0, none⟩) : Value)) rfl)) ((H1 _ hJ).mono ?_))
      rintro x w2 ⟨rfl, hk⟩
      exact ⟨_, rfl, rfl, hJ.trans hk⟩
    | 5, hx =>
      obtain rfl : (42, (.pointer (some ⟨gm, 0, none⟩) : Value)) = x := Option.some.inj hx
      exact wpOp_of _ rfl rfl (v_move (.tmp 4) _ rfl (e4 a hot) ⟨rfl, hJ⟩)
    | 6, hx =>
      obtain rfl : (43, (.pointer (some ⟨gm, 0, none⟩) : Value)) = x := Option.some.inj hx
      exact wpOp_of _ rfl rfl (v_nil (.tmp 42) _ rfl (veval_of (hdp 5 (by decide) (42, (.pointer (some ⟨gm, 0, none⟩) : Value)) rfl)) ⟨rfl, hJ⟩)
    | 7, hx =>
      obtain rfl : (44, (.pointer (some ⟨gm, 0, none⟩) : Value)) = x := Option.some.inj hx
      exact wpOp_of _ rfl rfl (v_fieldZ 46 (.tmp 43) gm (Or.inr rfl) rfl (veval_of (hdp 6 (by decide) (43, (.pointer (some ⟨gm, 0, none⟩) : Value)) rfl)) ⟨rfl, hJ⟩)
    | 8, hx =>
      obtain rfl : (45, (.pointer (some ⟨g2, 0, none⟩) : Value)) = x := Option.some.inj hx
      exact wpOp_of _ rfl rfl (v_load40 (.tmp 44) gm 0 _ rfl (veval_of (hdp 7 (by decide) (44, (.pointer (some ⟨gm, 0, none⟩) : Value)) rfl)) (hJ.cell c1) ⟨rfl, hJ⟩)
    | 9, hx =>
      obtain rfl : (46, (str DM)) = x := Option.some.inj hx
      refine wpOp_of _ rfl rfl (v_call1 17 (.tmp 45) _ rfl _ Try.func17 (by kernel_rfl) (by kernel_rfl) _ (veval_of (hdp 8 (by decide) (45, (.pointer (some ⟨g2, 0, none⟩) : Value)) rfl)) ((H2 _ hJ).mono ?_))
      rintro x w2 ⟨rfl, hk⟩
      exact ⟨_, rfl, rfl, hJ.trans hk⟩
    | 10, hx =>
      obtain rfl : (47, (.bool true : Value)) = x := Option.some.inj hx
      exact wpOp_of _ rfl rfl (v_eql (.tmp 41) (.tmp 46) DM rfl (veval_of (hdp 4 (by decide) (41, (str DM)) rfl)) (veval_of (hdp 9 (by decide) (46, (str DM)) rfl)) ⟨rfl, hJ⟩)
    | 11, hx =>
      obtain rfl : (2, (.bool true : Value)) = x := Option.some.inj hx
      exact wpOp_of _ rfl rfl (v_assign (.tmp 47) _ rfl (veval_of (hdp 10 (by decide) (47, (.bool true : Value)) rfl)) ⟨rfl, hJ⟩)
    | i + 12, hx => simp [oDL] at hx
  · intro w1 hk
    exact hend w1 hk
end Go.Proofs.Qxb6500767a
