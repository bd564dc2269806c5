/- blastlaw: regions of SymbolicStateIsInterpreterState. -/
import Derived.Test.Qxb6500772aGf
import Derived.Test.Qxb6500772aXe
import Derived.Test.Qxb6500772aCm
namespace Go.Proofs.Qxb6500772a
open Go Go.RowKit Go.Qm
set_option linter.unusedVariables false
set_option linter.unusedSimpArgs false
section
variable {o : Oper} {a : Act} {w : World} {K : Act → World → Prop} {Q : Exit → Act → World → Prop}
set_option maxRecDepth 8000 in
theorem v_f39 (x : Operand) (i g k : Nat) (ho : o.op = .fieldAddr 39 x i) (hi : (i = 0 ∧ k = 0) ∨ (i = 1 ∧ k = 9) ∨ (i = 2 ∧ k = 10) ∨ (i = 3 ∧ k = 12)) (hx : a.eval x = .pointer (some ⟨g, 0, none⟩)) (h : K (a.put o.dst (.pointer (some ⟨g, k, none⟩))) w) : o.wp Try.prog a w K Q := by
  unfold Oper.wp execOp
  simp only [ho, hx]
  rcases hi with ⟨rfl, rfl⟩ | ⟨rfl, rfl⟩ | ⟨rfl, rfl⟩ | ⟨rfl, rfl⟩ <;> (simp [go_sem]; exact h)
theorem v_f33 (x : Operand) (g : Nat) (ho : o.op = .fieldAddr 33 x 1) (hx : a.eval x = .pointer (some ⟨g, 0, none⟩)) (h : K (a.put o.dst (.pointer (some ⟨g, 1, none⟩))) w) : o.wp Try.prog a w K Q := by
  unfold Oper.wp execOp
  simp only [ho, hx]
  simp [go_sem]
  exact h
set_option maxRecDepth 8000 in
theorem v_f52c (x : Operand) (i g k : Nat) (ho : o.op = .fieldAddr 52 x i) (hi : (i = 0 ∧ k = 0) ∨ (i = 3 ∧ k = 5) ∨ (i = 4 ∧ k = 7)) (hx : a.eval x = .pointer (some ⟨g, 0, none⟩)) (h : K (a.put o.dst (.pointer (some ⟨g, k, none⟩))) w) : o.wp Try.prog a w K Q := by
  unfold Oper.wp execOp
  simp only [ho, hx]
  rcases hi with ⟨rfl, rfl⟩ | ⟨rfl, rfl⟩ | ⟨rfl, rfl⟩ <;> (simp [go_sem]; exact h)
theorem v_load37 (x : Operand) (g k : Nat) (v0 v1 : Value) (ho : o.op = .load 37 x) (hx : a.eval x = .pointer (some ⟨g, k, none⟩)) (hc : w.cell? ⟨g, k, none⟩ = some v0) (hc1 : w.cell? ⟨g, k + 1, none⟩ = some v1) (h : K (a.put o.dst (.agg #[v0, v1])) w) : o.wp Try.prog a w K Q := by
  unfold Oper.wp execOp
  simp only [ho, hx]
  simp [go_sem, hc, hc1]
  exact h
theorem v_load33 (x : Operand) (g : Nat) (v0 v1 v2 v3 v4 v5 v6 v7 v8 : Value) (ho : o.op = .load 33 x) (hx : a.eval x = .pointer (some ⟨g, 0, none⟩)) (c0 : w.cell? ⟨g, 0, none⟩ = some v0) (c1 : w.cell? ⟨g, 1, none⟩ = some v1) (c2 : w.cell? ⟨g, 2, none⟩ = some v2) (c3 : w.cell? ⟨g, 3, none⟩ = some v3) (c4 : w.cell? ⟨g, 4, none⟩ = some v4) (c5 : w.cell? ⟨g, 5, none⟩ = some v5) (c6 : w.cell? ⟨g, 6, none⟩ = some v6) (c7 : w.cell? ⟨g, 7, none⟩ = some v7) (c8 : w.cell? ⟨g, 8, none⟩ = some v8) (h : K (a.put o.dst (.agg #[v0, v1, v2, v3, v4, v5, v6, v7, v8])) w) : o.wp Try.prog a w K Q := by
  unfold Oper.wp execOp
  simp only [ho, hx]
  simp [go_sem, c0, c1, c2, c3, c4, c5, c6, c7, c8]
  exact h
theorem v_ld44 (x : Operand) (g k : Nat) (v : Value) (ho : o.op = .load 44 x) (hx : a.eval x = .pointer (some ⟨g, k, none⟩)) (hc : w.cell? ⟨g, k, none⟩ = some v) (h : K (a.put o.dst v) w) : o.wp Try.prog a w K Q := by
  unfold Oper.wp execOp
  simp only [ho, hx]
  simp [go_sem, hc]
  exact h
theorem v_asg (x : Operand) (v : Value) (ho : o.op = .assign x) (hx : a.eval x = v) (h : K (a.put o.dst v) w) : o.wp Try.prog a w K Q := by
  unfold Oper.wp execOp
  simp only [ho, hx]
  exact h
theorem v_not (t : Nat) (b : Bool) (ho : o.op = .unOp .not 4 (.tmp t)) (hx : a.tmps[t]? = some (.bool b)) (h : K (a.put o.dst (.bool (!b))) w) : o.wp Try.prog a w K Q := by
  unfold Oper.wp execOp
  simp only [ho]
  simp [go_sem, hx]
  exact h
set_option maxRecDepth 4000 in
theorem v_idx49 (x y : Operand) (g m c k : Nat) (ho : o.op = .indexAddr 49 x y) (hx : a.eval x = .slice (some ⟨g, 0, none⟩) m c) (hy : a.eval y = .int .i64 (k : Nat)) (hk : k < m) (h : K (a.put o.dst (.pointer (some ⟨g, k * 2, none⟩))) w) : o.wp Try.prog a w K Q := by
  have h1 : (k : Int) < m := by omega
  have h2 : (0 : Int) ≤ k := by omega
  unfold Oper.wp execOp
  simp only [ho, hx, hy]
  simp [go_sem, h1, h2]
  exact h
set_option maxRecDepth 4000 in
theorem v_slc (t1 t2 t3 : Nat) (g o' m c k : Nat) (ho : o.op = .slice 25 (.tmp t1) (some (.tmp t2)) (some (.tmp t3)) none) (hx : a.tmps[t1]? = some (.slice (some ⟨g, o', none⟩) m c)) (hy : a.tmps[t2]? = some (.int .i64 (k : Nat))) (hz : a.tmps[t3]? = some (.int .i64 ((k + 1 : Nat) : Int))) (hk : k < m) (hm : m ≤ c) (hc : c ≤ 9223372036854775807) (h : K (a.put o.dst (.slice (some ⟨g, o' + k * 8, none⟩) 1 (c - k))) w) : o.wp Try.prog a w K Q := by
  obtain ⟨k1, hk1⟩ : ∃ k1, k1 = k + 1 := ⟨_, rfl⟩
  rw [← hk1] at hz
  have h1 : (0 : Int) ≤ k := by omega
  have h2 : (k : Int) ≤ k1 := by omega
  have h3 : (k1 : Int) ≤ c := by omega
  have h4 : ¬ (c = k) := by omega
  have h5 : (c : Int) ≤ 9223372036854775807 := by omega
  have h6 : k1 - k = 1 := by omega
  unfold Oper.wp execOp
  simp only [ho]
  simp [go_sem, hx, hy, hz, h1, h2, h3, h4, h5, h6]
  exact h
end
def y9 : Array Oper := #[{ dst := some 38, op := Go.Op.move (Go.Operand.tmp 4), type := 41, pos := "laws.go:41", after := #[], guard := none }, { dst := some 39, op := Go.Op.nilCheck (Go.Operand.tmp 38), type := 0, pos := "laws.go:41", after := #[{ on := 0, ground := Go.Ground.data }], guard := none }, { dst := some 40, op := Go.Op.fieldAddr 52 (Go.Operand.tmp 39) 0, type := 0, pos := "laws.go:41", after := #[{ on := 1, ground := Go.Ground.data }], guard := none }, { dst := some 41, op := Go.Op.load 44 (Go.Operand.tmp 40), type := 44, pos := "laws.go:41", after := #[{ on := 2, ground := Go.Ground.data }], guard := none }, { dst := some 42, op := Go.Op.move (Go.Operand.tmp 4), type := 41, pos := "laws.go:41", after := #[], guard := none }, { dst := some 43, op := Go.Op.fieldAddr 39 (Go.Operand.tmp 3) 2, type := 0, pos := "laws.go:41", after := #[], guard := none }, { dst := some 44, op := Go.Op.load 37 (Go.Operand.tmp 43), type := 37, pos := "laws.go:41", after := #[{ on := 5, ground := Go.Ground.data }], guard := none }, { dst := some 45, op := Go.Op.fieldAddr 39 (Go.Operand.tmp 3) 3, type := 0, pos := "laws.go:41", after := #[], guard := none }, { dst := some 46, op := Go.Op.load 37 (Go.Operand.tmp 45), type := 37, pos := "laws.go:41", after := #[{ on := 7, ground := Go.Ground.data }], guard := none }, { dst := some 47, op := Go.Op.call { callee := Go.Callee.value (Go.Operand.func 10), args := #[Go.Operand.tmp 42, Go.Operand.tmp 44, Go.Operand.tmp 46], argTypes := #[41, 37, 37] }, type := 55, pos := "laws.go:41", after := #[{ on := 4, ground := Go.Ground.data }, { on := 6, ground := Go.Ground.data }, { on := 8, ground := Go.Ground.data }], guard := none }, { dst := some 48, op := Go.Op.call { callee := Go.Callee.value (Go.Operand.func 9), args := #[Go.Operand.tmp 41, Go.Operand.tmp 47], argTypes := #[44, 55] }, type := 53, pos := "laws.go:41", after := #[{ on := 3, ground := Go.Ground.data }, { on := 9, ground := Go.Ground.data }, { on := 9, ground := Go.Ground.chain }], guard := none }, { dst := some 6, op := Go.Op.assign (Go.Operand.tmp 48), type := 53, pos := "laws.go:41", after := #[{ on := 10, ground := Go.Ground.data }, { on := 10, ground := Go.Ground.chain }, { on := 0, ground := Go.Ground.phase }, { on := 1, ground := Go.Ground.phase }, { on := 2, ground := Go.Ground.phase }, { on := 3, ground := Go.Ground.phase }, { on := 4, ground := Go.Ground.phase }, { on := 5, ground := Go.Ground.phase }, { on := 6, ground := Go.Ground.phase }, { on := 7, ground := Go.Ground.phase }, { on := 8, ground := Go.Ground.phase }, { on := 9, ground := Go.Ground.phase }, { on := 10, ground := Go.Ground.phase }], guard := none }]
def y9T (gT gS gc ga g7 am ac n pn pc bb bo bn bc kn kc sn sc tn tc : Nat) (pa ka sa ta : Option Addr) (f : EF) (b0 b1 : Bool) (vv : Value) : List (Option Nat × (Value ⊕ Nat)) := [(some 38, .inl (.pointer (some ⟨gS, 0, none⟩))), (some 39, .inl (.pointer (some ⟨gS, 0, none⟩))), (some 40, .inl (.pointer (some ⟨gS, 0, none⟩))), (some 41, .inl (.pointer (some ⟨gc, 0, none⟩))), (some 42, .inl (.pointer (some ⟨gS, 0, none⟩))), (some 43, .inl (.pointer (some ⟨gT, 10, none⟩))), (some 44, .inl (.agg #[.slice sa sn sc, .bool b0])), (some 45, .inl (.pointer (some ⟨gT, 12, none⟩))), (some 46, .inl (.agg #[.slice ta tn tc, .bool b1])), (some 47, .inr 0), (some 48, .inr 1), (some 6, .inr 2)]
theorem y9_chk : chk y9 y9.size = true := by kernel_rfl
set_option maxRecDepth 4000 in
set_option maxHeartbeats 4000000 in
theorem y9_c {Q : Exit → Act → World → Prop} {a0 : Act} {w : World} (gT gS gc ga g7 am ac n pn pc bb bo bn bc kn kc sn sc tn tc : Nat) (pa ka sa ta : Option Addr) (f : EF) (b0 b1 : Bool) (vv : Value) (hz0 : a0.tmps.size = 91) (h3 : a0.tmps[3]? = some (.pointer (some ⟨gT, 0, none⟩))) (h4 : a0.tmps[4]? = some (.pointer (some ⟨gS, 0, none⟩))) (q44 : w.drew.cell? ⟨gS, 0, none⟩ = some (.pointer (some ⟨gc, 0, none⟩))) (s0 : w.drew.cell? ⟨gT, 10, none⟩ = some (.slice sa sn sc)) (s1 : w.drew.cell? ⟨gT, 11, none⟩ = some (.bool b0)) (u0 : w.drew.cell? ⟨gT, 12, none⟩ = some (.slice ta tn tc)) (u1 : w.drew.cell? ⟨gT, 13, none⟩ = some (.bool b1)) (V0 V1 : Value → World → Prop) (k0 : ∀ Z, Keep w.drew Z → Calls Try.prog 10 #[.pointer (some ⟨gS, 0, none⟩), .agg #[.slice sa sn sc, .bool b0], .agg #[.slice ta tn tc, .bool b1]] Z fun e w' => ∃ u, e = .returned u ∧ V0 u w' ∧ Keep Z w') (k1 : ∀ Z u, Keep w.drew Z → V0 u Z → Calls Try.prog 9 #[.pointer (some ⟨gc, 0, none⟩), u] Z fun e w' => ∃ u', e = .returned u' ∧ V1 u' w' ∧ Keep Z w')
    (hend : ∀ vs u w', vs 2 = some u → V1 u w' → Keep w.drew w' → Q .normal (lay a0 (Lmx (y9T gT gS gc ga g7 am ac n pn pc bb bo bn bc kn kc sn sc tn tc pa ka sa ta f b0 b1 vv) vs)) w') :
    (Code.region 9 y9 true).wp Try.prog Q a0 w := by
  refine wp_region_mx (by rfl) (y9T gT gS gc ga g7 am ac n pn pc bb bo bn bc kn kc sn sc tn tc pa ka sa ta f b0 b1 vv) [38, 39, 40, 41, 42, 43, 44, 45, 46, 47, 48, 6] [none, none, none, none, none, none, none, none, none, some 0, some 1, some 2] [9, 10, 11] rfl rfl rfl y9_chk (by decide) (by decide) (by
    intro d hd
    rw [hz0]
    have : ∀ y ∈ [38, 39, 40, 41, 42, 43, 44, 45, 46, 47, 48, 6], y < 91 := by decide
    exact this _ hd) (fun vs w' => Keep w.drew w' ∧ (∀ u, vs 0 = some u → vs 1 = none → V0 u w') ∧ (∀ u, vs 1 = some u → V1 u w') ∧ (∀ u, vs 2 = some u → vs 1 = some u)) ⟨Keep.refl _, (fun u h => by cases h), (fun u h => by cases h), (fun u h => by cases h)⟩ ?_ ?_
  · intro i d x hT listed vs a w' h
    match i, hT with
    | 0, hT =>
      obtain ⟨rfl, rfl⟩ := Prod.mk.inj (Option.some.inj (show some ((some 38 : Option Nat), (.inl (.pointer (some ⟨gS, 0, none⟩)) : Value ⊕ Nat)) = some (d, x) from hT))
      exact wpOp_of _ rfl rfl (v_move (.tmp 4) _ rfl (veval_of ((h.ot 4 (by decide)).trans h4)) ⟨rfl, rfl⟩)
    | 1, hT =>
      obtain ⟨rfl, rfl⟩ := Prod.mk.inj (Option.some.inj (show some ((some 39 : Option Nat), (.inl (.pointer (some ⟨gS, 0, none⟩)) : Value ⊕ Nat)) = some (d, x) from hT))
      exact wpOp_of _ rfl rfl (v_nil (.tmp 38) _ rfl (veval_of (h.val 0 38 _ rfl (by decide))) ⟨rfl, rfl⟩)
    | 2, hT =>
      obtain ⟨rfl, rfl⟩ := Prod.mk.inj (Option.some.inj (show some ((some 40 : Option Nat), (.inl (.pointer (some ⟨gS, 0, none⟩)) : Value ⊕ Nat)) = some (d, x) from hT))
      exact wpOp_of _ rfl rfl (v_f52c (.tmp 39) 0 _ 0 rfl (by decide) (veval_of (h.val 1 39 _ rfl (by decide))) ⟨rfl, rfl⟩)
    | 3, hT =>
      obtain ⟨rfl, rfl⟩ := Prod.mk.inj (Option.some.inj (show some ((some 41 : Option Nat), (.inl (.pointer (some ⟨gc, 0, none⟩)) : Value ⊕ Nat)) = some (d, x) from hT))
      exact wpOp_of _ rfl rfl (v_ld44 (.tmp 40) _ _ _ rfl (veval_of (h.val 2 40 _ rfl (by decide))) (h.r.1.cell q44) ⟨rfl, rfl⟩)
    | 4, hT =>
      obtain ⟨rfl, rfl⟩ := Prod.mk.inj (Option.some.inj (show some ((some 42 : Option Nat), (.inl (.pointer (some ⟨gS, 0, none⟩)) : Value ⊕ Nat)) = some (d, x) from hT))
      exact wpOp_of _ rfl rfl (v_move (.tmp 4) _ rfl (veval_of ((h.ot 4 (by decide)).trans h4)) ⟨rfl, rfl⟩)
    | 5, hT =>
      obtain ⟨rfl, rfl⟩ := Prod.mk.inj (Option.some.inj (show some ((some 43 : Option Nat), (.inl (.pointer (some ⟨gT, 10, none⟩)) : Value ⊕ Nat)) = some (d, x) from hT))
      exact wpOp_of _ rfl rfl (v_f39 (.tmp 3) 2 _ 10 rfl (by decide) (veval_of ((h.ot 3 (by decide)).trans h3)) ⟨rfl, rfl⟩)
    | 6, hT =>
      obtain ⟨rfl, rfl⟩ := Prod.mk.inj (Option.some.inj (show some ((some 44 : Option Nat), (.inl (.agg #[.slice sa sn sc, .bool b0]) : Value ⊕ Nat)) = some (d, x) from hT))
      exact wpOp_of _ rfl rfl (v_load37 (.tmp 43) _ _ _ _ rfl (veval_of (h.val 5 43 _ rfl (by decide))) (h.r.1.cell s0) (h.r.1.cell s1) ⟨rfl, rfl⟩)
    | 7, hT =>
      obtain ⟨rfl, rfl⟩ := Prod.mk.inj (Option.some.inj (show some ((some 45 : Option Nat), (.inl (.pointer (some ⟨gT, 12, none⟩)) : Value ⊕ Nat)) = some (d, x) from hT))
      exact wpOp_of _ rfl rfl (v_f39 (.tmp 3) 3 _ 12 rfl (by decide) (veval_of ((h.ot 3 (by decide)).trans h3)) ⟨rfl, rfl⟩)
    | 8, hT =>
      obtain ⟨rfl, rfl⟩ := Prod.mk.inj (Option.some.inj (show some ((some 46 : Option Nat), (.inl (.agg #[.slice ta tn tc, .bool b1]) : Value ⊕ Nat)) = some (d, x) from hT))
      exact wpOp_of _ rfl rfl (v_load37 (.tmp 45) _ _ _ _ rfl (veval_of (h.val 7 45 _ rfl (by decide))) (h.r.1.cell u0) (h.r.1.cell u1) ⟨rfl, rfl⟩)
    | 9, hT =>
      obtain ⟨rfl, rfl⟩ := Prod.mk.inj (Option.some.inj (show some ((some 47 : Option Nat), (.inr 0 : Value ⊕ Nat)) = some (d, x) from hT))
      have n1 := h.later 1 10 rfl 12 (by kernel_rfl)
      have n2 := h.later 2 11 rfl 12 (by kernel_rfl)
      refine wpOp_of _ rfl rfl (v_call 10 _ _ rfl _ Try.func10 (by kernel_rfl) (by kernel_rfl) #[.pointer (some ⟨gS, 0, none⟩), .agg #[.slice sa sn sc, .bool b0], .agg #[.slice ta tn tc, .bool b1]] (by simp [veval_of (h.val 4 42 _ rfl (by decide)), veval_of (h.val 6 44 _ rfl (by decide)), veval_of (h.val 8 46 _ rfl (by decide))]; first | done | rfl | exact ⟨rfl, rfl⟩ | exact ⟨rfl, rfl, rfl⟩) ((k0 w' h.r.1).mono ?_))
      rintro e y ⟨u, rfl, hu, kz⟩
      exact ⟨_, rfl, _, rfl, h.r.1.trans kz, fun u' hu' _ => (by rw [upv_same] at hu'; rw [← Option.some.inj hu']; exact hu), fun u' hu' => (by have h9 : vs 1 = some u' := hu'; rw [n1] at h9; cases h9), fun u' hu' => (by have h9 : vs 2 = some u' := hu'; rw [n2] at h9; cases h9)⟩
    | 10, hT =>
      obtain ⟨rfl, rfl⟩ := Prod.mk.inj (Option.some.inj (show some ((some 48 : Option Nat), (.inr 1 : Value ⊕ Nat)) = some (d, x) from hT))
      obtain ⟨u0, e0⟩ := h.has 0 9 rfl 12 (by kernel_rfl)
      have n1 := h.not 1 rfl
      have n2 := h.later 2 11 rfl 12 (by kernel_rfl)
      have hv0 := h.r.2.1 u0 e0 n1
      refine wpOp_of _ rfl rfl (v_call 9 _ _ rfl _ Try.func9 (by kernel_rfl) (by kernel_rfl) #[.pointer (some ⟨gc, 0, none⟩), u0] (by simp [veval_of (h.val 3 41 _ rfl (by decide)), veval_of (h.vale 9 47 0 rfl (by decide) e0)]; first | done | rfl | exact ⟨rfl, rfl⟩ | exact ⟨rfl, rfl, rfl⟩) ((k1 w' u0 h.r.1 hv0).mono ?_))
      rintro e y ⟨u, rfl, hu, kz⟩
      exact ⟨_, rfl, _, rfl, h.r.1.trans kz, fun u' _ hu' => (by cases hu'), fun u' hu' => (by rw [upv_same] at hu'; rw [← Option.some.inj hu']; exact hu), fun u' hu' => (by have h9 : vs 2 = some u' := hu'; rw [n2] at h9; cases h9)⟩
    | 11, hT =>
      obtain ⟨rfl, rfl⟩ := Prod.mk.inj (Option.some.inj (show some ((some 6 : Option Nat), (.inr 2 : Value ⊕ Nat)) = some (d, x) from hT))
      obtain ⟨u1, e1⟩ := h.has 1 10 rfl 12 (by kernel_rfl)
      exact wpOp_of _ rfl rfl (v_asg (.tmp 48) _ rfl (veval_of (h.vale 10 48 1 rfl (by decide) e1)) ⟨_, rfl, h.r.1, h.r.2.1, h.r.2.2.1, fun u hu => by rw [upv_same] at hu; rw [← Option.some.inj hu]; exact e1⟩)
    | i + 12, hT => simp [y9T] at hT
  · intro vs w' hv hR
    obtain ⟨u, e⟩ := hv 2 (by decide)
    exact hend vs u w' e (hR.2.2.1 u (hR.2.2.2 u e)) hR.1
def y15 : Array Oper := #[{ dst := some 62, op := Go.Op.fieldAddr 39 (Go.Operand.tmp 3) 0, type := 0, pos := "laws.go:45", after := #[], guard := none }, { dst := some 63, op := Go.Op.load 33 (Go.Operand.tmp 62), type := 33, pos := "laws.go:45", after := #[{ on := 0, ground := Go.Ground.data }], guard := none }, { dst := some 64, op := Go.Op.fieldAddr 39 (Go.Operand.tmp 3) 0, type := 0, pos := "laws.go:45", after := #[], guard := none }, { dst := some 65, op := Go.Op.fieldAddr 33 (Go.Operand.tmp 64) 1, type := 0, pos := "laws.go:45", after := #[{ on := 2, ground := Go.Ground.data }], guard := none }, { dst := some 66, op := Go.Op.load 25 (Go.Operand.tmp 65), type := 25, pos := "laws.go:45", after := #[{ on := 3, ground := Go.Ground.data }], guard := none }, { dst := some 67, op := Go.Op.move (Go.Operand.tmp 8), type := 3, pos := "laws.go:45", after := #[], guard := none }, { dst := some 68, op := Go.Op.binOp Go.BinOp.sub 3 (Go.Operand.tmp 67) (Go.Operand.const (Go.Value.int Go.IntKind.i64 1)) 3, type := 3, pos := "laws.go:45", after := #[{ on := 5, ground := Go.Ground.data }], guard := none }, { dst := some 69, op := Go.Op.move (Go.Operand.tmp 8), type := 3, pos := "laws.go:45", after := #[], guard := none }, { dst := some 70, op := Go.Op.slice 25 (Go.Operand.tmp 66) (some (Go.Operand.tmp 68)) (some (Go.Operand.tmp 69)) none, type := 25, pos := "laws.go:45", after := #[{ on := 4, ground := Go.Ground.data }, { on := 6, ground := Go.Ground.data }, { on := 7, ground := Go.Ground.data }], guard := none }, { dst := some 71, op := Go.Op.call { callee := Go.Callee.value (Go.Operand.func 12), args := #[Go.Operand.tmp 63, Go.Operand.tmp 70, Go.Operand.tmp 7], argTypes := #[33, 25, 59] }, type := 0, pos := "laws.go:45", after := #[{ on := 1, ground := Go.Ground.data }, { on := 8, ground := Go.Ground.data }], guard := none }]
def y15T (gT gS gc ga g7 am ac n pn pc bb bo bn bc kn kc sn sc tn tc : Nat) (pa ka sa ta : Option Addr) (f : EF) (b0 b1 : Bool) (vv : Value) : List (Option Nat × (Value ⊕ Nat)) := [(some 62, .inl (.pointer (some ⟨gT, 0, none⟩))), (some 63, .inl (.agg #[.slice pa pn pc, .slice (some ⟨bb, bo, none⟩) bn bc, .int .i64 f.k, .int .i64 f.w, .int .i64 f.o, .int .u64 ((f.v : Nat) : Int), .int .i64 f.c, .int .i64 f.l, .slice ka kn kc])), (some 64, .inl (.pointer (some ⟨gT, 0, none⟩))), (some 65, .inl (.pointer (some ⟨gT, 1, none⟩))), (some 66, .inl (.slice (some ⟨bb, bo, none⟩) bn bc)), (some 67, .inl (.int .i64 (((n + 1 : Nat)) : Int))), (some 68, .inl (.int .i64 ((n : Nat) : Int))), (some 69, .inl (.int .i64 (((n + 1 : Nat)) : Int))), (some 70, .inl (.slice (some ⟨bb, bo + n * 8, none⟩) 1 (bc - n))), (some 71, .inr 0)]
theorem y15_chk : chk y15 y15.size = true := by kernel_rfl
set_option maxRecDepth 4000 in
set_option maxHeartbeats 4000000 in
theorem y15_c {Q : Exit → Act → World → Prop} {a0 : Act} {w : World} (gT gS gc ga g7 am ac n pn pc bb bo bn bc kn kc sn sc tn tc : Nat) (pa ka sa ta : Option Addr) (f : EF) (b0 b1 : Bool) (vv : Value) (hz0 : a0.tmps.size = 91) (h3 : a0.tmps[3]? = some (.pointer (some ⟨gT, 0, none⟩))) (h7 : a0.tmps[7]? = some (.pointer (some ⟨g7, 0, none⟩))) (h8 : a0.tmps[8]? = some (.int .i64 (((n + 1 : Nat)) : Int))) (q33_0 : w.drew.cell? ⟨gT, 0, none⟩ = some (.slice pa pn pc)) (q33_1 : w.drew.cell? ⟨gT, 1, none⟩ = some (.slice (some ⟨bb, bo, none⟩) bn bc)) (q33_2 : w.drew.cell? ⟨gT, 2, none⟩ = some (.int .i64 f.k)) (q33_3 : w.drew.cell? ⟨gT, 3, none⟩ = some (.int .i64 f.w)) (q33_4 : w.drew.cell? ⟨gT, 4, none⟩ = some (.int .i64 f.o)) (q33_5 : w.drew.cell? ⟨gT, 5, none⟩ = some (.int .u64 ((f.v : Nat) : Int))) (q33_6 : w.drew.cell? ⟨gT, 6, none⟩ = some (.int .i64 f.c)) (q33_7 : w.drew.cell? ⟨gT, 7, none⟩ = some (.int .i64 f.l)) (q33_8 : w.drew.cell? ⟨gT, 8, none⟩ = some (.slice ka kn kc)) (hn1 : n < bn) (hn2 : bn ≤ bc) (hn3 : bc ≤ 9223372036854775807) (hn4 : n ≤ 900000) (FO : World → Prop) (k0 : Calls Try.prog 12 #[.agg #[.slice pa pn pc, .slice (some ⟨bb, bo, none⟩) bn bc, .int .i64 f.k, .int .i64 f.w, .int .i64 f.o, .int .u64 ((f.v : Nat) : Int), .int .i64 f.c, .int .i64 f.l, .slice ka kn kc], .slice (some ⟨bb, bo + n * 8, none⟩) 1 (bc - n), .pointer (some ⟨g7, 0, none⟩)] w.drew fun e w' => e = .returned (.tuple #[]) ∧ FO w')
    (hend : ∀ vs w', FO w' → Q .normal (lay a0 (Lmx (y15T gT gS gc ga g7 am ac n pn pc bb bo bn bc kn kc sn sc tn tc pa ka sa ta f b0 b1 vv) vs)) w') :
    (Code.region 15 y15 true).wp Try.prog Q a0 w := by
  refine wp_region_mx (by rfl) (y15T gT gS gc ga g7 am ac n pn pc bb bo bn bc kn kc sn sc tn tc pa ka sa ta f b0 b1 vv) [62, 63, 64, 65, 66, 67, 68, 69, 70, 71] [none, none, none, none, none, none, none, none, none, some 0] [9] rfl rfl rfl y15_chk (by decide) (by decide) (by
    intro d hd
    rw [hz0]
    have : ∀ y ∈ [62, 63, 64, 65, 66, 67, 68, 69, 70, 71], y < 91 := by decide
    exact this _ hd) (fun vs w' => (vs 0 = none → w' = w.drew) ∧ (∀ u, vs 0 = some u → FO w')) ⟨fun _ => rfl, (fun u h => by cases h)⟩ ?_ ?_
  · intro i d x hT listed vs a w' h
    match i, hT with
    | 0, hT =>
      obtain ⟨rfl, rfl⟩ := Prod.mk.inj (Option.some.inj (show some ((some 62 : Option Nat), (.inl (.pointer (some ⟨gT, 0, none⟩)) : Value ⊕ Nat)) = some (d, x) from hT))
      exact wpOp_of _ rfl rfl (v_f39 (.tmp 3) 0 _ 0 rfl (by decide) (veval_of ((h.ot 3 (by decide)).trans h3)) ⟨rfl, rfl⟩)
    | 1, hT =>
      obtain ⟨rfl, rfl⟩ := Prod.mk.inj (Option.some.inj (show some ((some 63 : Option Nat), (.inl (.agg #[.slice pa pn pc, .slice (some ⟨bb, bo, none⟩) bn bc, .int .i64 f.k, .int .i64 f.w, .int .i64 f.o, .int .u64 ((f.v : Nat) : Int), .int .i64 f.c, .int .i64 f.l, .slice ka kn kc]) : Value ⊕ Nat)) = some (d, x) from hT))
      have hw := h.r.1 (h.later 0 9 rfl 10 (by kernel_rfl))
      subst hw
      exact wpOp_of _ rfl rfl (v_load33 (.tmp 62) _ _ _ _ _ _ _ _ _ _ rfl (veval_of (h.val 0 62 _ rfl (by decide))) q33_0 q33_1 q33_2 q33_3 q33_4 q33_5 q33_6 q33_7 q33_8 ⟨rfl, rfl⟩)
    | 2, hT =>
      obtain ⟨rfl, rfl⟩ := Prod.mk.inj (Option.some.inj (show some ((some 64 : Option Nat), (.inl (.pointer (some ⟨gT, 0, none⟩)) : Value ⊕ Nat)) = some (d, x) from hT))
      exact wpOp_of _ rfl rfl (v_f39 (.tmp 3) 0 _ 0 rfl (by decide) (veval_of ((h.ot 3 (by decide)).trans h3)) ⟨rfl, rfl⟩)
    | 3, hT =>
      obtain ⟨rfl, rfl⟩ := Prod.mk.inj (Option.some.inj (show some ((some 65 : Option Nat), (.inl (.pointer (some ⟨gT, 1, none⟩)) : Value ⊕ Nat)) = some (d, x) from hT))
      exact wpOp_of _ rfl rfl (v_f33 (.tmp 64) _ rfl (veval_of (h.val 2 64 _ rfl (by decide))) ⟨rfl, rfl⟩)
    | 4, hT =>
      obtain ⟨rfl, rfl⟩ := Prod.mk.inj (Option.some.inj (show some ((some 66 : Option Nat), (.inl (.slice (some ⟨bb, bo, none⟩) bn bc) : Value ⊕ Nat)) = some (d, x) from hT))
      have hw := h.r.1 (h.later 0 9 rfl 10 (by kernel_rfl))
      subst hw
      exact wpOp_of _ rfl rfl (v_load25 (.tmp 65) _ _ _ rfl (veval_of (h.val 3 65 _ rfl (by decide))) q33_1 ⟨rfl, rfl⟩)
    | 5, hT =>
      obtain ⟨rfl, rfl⟩ := Prod.mk.inj (Option.some.inj (show some ((some 67 : Option Nat), (.inl (.int .i64 (((n + 1 : Nat)) : Int)) : Value ⊕ Nat)) = some (d, x) from hT))
      exact wpOp_of _ rfl rfl (v_move (.tmp 8) _ rfl (veval_of ((h.ot 8 (by decide)).trans h8)) ⟨rfl, rfl⟩)
    | 6, hT =>
      obtain ⟨rfl, rfl⟩ := Prod.mk.inj (Option.some.inj (show some ((some 68 : Option Nat), (.inl (.int .i64 ((n : Nat) : Int)) : Value ⊕ Nat)) = some (d, x) from hT))
      exact wpOp_of _ rfl rfl (v_sub1 (.tmp 67) (n + 1) (by omega) (by omega) rfl (veval_of (h.val 5 67 _ rfl (by decide))) ⟨rfl, rfl⟩)
    | 7, hT =>
      obtain ⟨rfl, rfl⟩ := Prod.mk.inj (Option.some.inj (show some ((some 69 : Option Nat), (.inl (.int .i64 (((n + 1 : Nat)) : Int)) : Value ⊕ Nat)) = some (d, x) from hT))
      exact wpOp_of _ rfl rfl (v_move (.tmp 8) _ rfl (veval_of ((h.ot 8 (by decide)).trans h8)) ⟨rfl, rfl⟩)
    | 8, hT =>
      obtain ⟨rfl, rfl⟩ := Prod.mk.inj (Option.some.inj (show some ((some 70 : Option Nat), (.inl (.slice (some ⟨bb, bo + n * 8, none⟩) 1 (bc - n)) : Value ⊕ Nat)) = some (d, x) from hT))
      exact wpOp_of _ rfl rfl (v_slc 66 68 69 _ _ _ _ _ rfl (h.val 4 66 _ rfl (by decide)) (h.val 6 68 _ rfl (by decide)) (h.val 7 69 _ rfl (by decide)) hn1 hn2 hn3 ⟨rfl, rfl⟩)
    | 9, hT =>
      obtain ⟨rfl, rfl⟩ := Prod.mk.inj (Option.some.inj (show some ((some 71 : Option Nat), (.inr 0 : Value ⊕ Nat)) = some (d, x) from hT))
      have hw := h.r.1 (h.not 0 rfl)
      subst hw
      refine wpOp_of _ rfl rfl (v_call 12 _ _ rfl _ Try.func12 (by kernel_rfl) (by kernel_rfl) #[.agg #[.slice pa pn pc, .slice (some ⟨bb, bo, none⟩) bn bc, .int .i64 f.k, .int .i64 f.w, .int .i64 f.o, .int .u64 ((f.v : Nat) : Int), .int .i64 f.c, .int .i64 f.l, .slice ka kn kc], .slice (some ⟨bb, bo + n * 8, none⟩) 1 (bc - n), .pointer (some ⟨g7, 0, none⟩)] (by simp [veval_of (h.val 1 63 _ rfl (by decide)), veval_of (h.val 8 70 _ rfl (by decide)), veval_of ((h.ot 7 (by decide)).trans h7)]; first | done | rfl | exact ⟨rfl, rfl⟩ | exact ⟨rfl, rfl, rfl⟩) (k0.mono ?_))
      rintro e y ⟨rfl, hy⟩
      exact ⟨_, rfl, _, rfl, (fun e => by cases e), fun _ _ => hy⟩
    | i + 10, hT => simp [y15T] at hT
  · intro vs w' hv hR
    obtain ⟨u, e⟩ := hv 0 (by decide)
    exact hend vs w' (hR.2 u e)
def y16 : Array Oper := #[{ dst := some 72, op := Go.Op.move (Go.Operand.tmp 4), type := 41, pos := "laws.go:47", after := #[], guard := none }, { dst := some 73, op := Go.Op.nilCheck (Go.Operand.tmp 72), type := 0, pos := "laws.go:47", after := #[{ on := 0, ground := Go.Ground.data }], guard := none }, { dst := some 74, op := Go.Op.fieldAddr 52 (Go.Operand.tmp 73) 4, type := 0, pos := "laws.go:47", after := #[{ on := 1, ground := Go.Ground.data }], guard := none }, { dst := some 75, op := Go.Op.load 49 (Go.Operand.tmp 74), type := 49, pos := "laws.go:47", after := #[{ on := 2, ground := Go.Ground.data }], guard := none }, { dst := some 76, op := Go.Op.move (Go.Operand.tmp 8), type := 3, pos := "laws.go:47", after := #[], guard := none }, { dst := some 77, op := Go.Op.indexAddr 49 (Go.Operand.tmp 75) (Go.Operand.tmp 76), type := 0, pos := "laws.go:47", after := #[{ on := 3, ground := Go.Ground.data }, { on := 4, ground := Go.Ground.data }], guard := none }, { dst := some 78, op := Go.Op.move (Go.Operand.tmp 6), type := 53, pos := "laws.go:47", after := #[], guard := none }, { dst := some 79, op := Go.Op.call { callee := Go.Callee.value (Go.Operand.func 14), args := #[Go.Operand.tmp 77, Go.Operand.tmp 78], argTypes := #[48, 53] }, type := 37, pos := "laws.go:47", after := #[{ on := 5, ground := Go.Ground.data }, { on := 6, ground := Go.Ground.data }], guard := none }, { dst := some 80, op := Go.Op.load 37 (Go.Operand.tmp 7), type := 37, pos := "laws.go:47", after := #[], guard := none }, { dst := some 81, op := Go.Op.call { callee := Go.Callee.value (Go.Operand.func 13), args := #[Go.Operand.tmp 79, Go.Operand.tmp 80], argTypes := #[37, 37] }, type := 4, pos := "laws.go:47", after := #[{ on := 7, ground := Go.Ground.data }, { on := 8, ground := Go.Ground.data }, { on := 7, ground := Go.Ground.chain }], guard := none }, { dst := some 82, op := Go.Op.unOp Go.UnOp.not 4 (Go.Operand.tmp 81), type := 4, pos := "laws.go:47", after := #[{ on := 9, ground := Go.Ground.data }], guard := none }]
def y16T (gT gS gc ga g7 am ac n pn pc bb bo bn bc kn kc sn sc tn tc : Nat) (pa ka sa ta : Option Addr) (f : EF) (b0 b1 : Bool) (vv : Value) : List (Option Nat × (Value ⊕ Nat)) := [(some 72, .inl (.pointer (some ⟨gS, 0, none⟩))), (some 73, .inl (.pointer (some ⟨gS, 0, none⟩))), (some 74, .inl (.pointer (some ⟨gS, 7, none⟩))), (some 75, .inl (.slice (some ⟨ga, 0, none⟩) am ac)), (some 76, .inl (.int .i64 ((n : Nat) : Int))), (some 77, .inl (.pointer (some ⟨ga, n * 2, none⟩))), (some 78, .inl (vv)), (some 79, .inr 0), (some 80, .inl (.agg #[.slice sa sn sc, .bool b0])), (some 81, .inr 1), (some 82, .inr 2)]
theorem y16_chk : chk y16 y16.size = true := by kernel_rfl
set_option maxRecDepth 4000 in
set_option maxHeartbeats 4000000 in
theorem y16_c {Q : Exit → Act → World → Prop} {a0 : Act} {w : World} (gT gS gc ga g7 am ac n pn pc bb bo bn bc kn kc sn sc tn tc : Nat) (pa ka sa ta : Option Addr) (f : EF) (b0 b1 : Bool) (vv : Value) (hz0 : a0.tmps.size = 91) (h4 : a0.tmps[4]? = some (.pointer (some ⟨gS, 0, none⟩))) (h6 : a0.tmps[6]? = some (vv)) (h7 : a0.tmps[7]? = some (.pointer (some ⟨g7, 0, none⟩))) (h8 : a0.tmps[8]? = some (.int .i64 ((n : Nat) : Int))) (q49 : w.drew.cell? ⟨gS, 7, none⟩ = some (.slice (some ⟨ga, 0, none⟩) am ac)) (s0 : w.drew.cell? ⟨g7, 0, none⟩ = some (.slice sa sn sc)) (s1 : w.drew.cell? ⟨g7, 1, none⟩ = some (.bool b0)) (hn : n < am) (V0 : Value → World → Prop) (k0 : ∀ Z, Keep w.drew Z → Calls Try.prog 14 #[.pointer (some ⟨ga, n * 2, none⟩), vv] Z fun e w' => ∃ u, e = .returned u ∧ V0 u w' ∧ Keep Z w') (k1 : ∀ Z u, Keep w.drew Z → V0 u Z → Calls Try.prog 13 #[u, .agg #[.slice sa sn sc, .bool b0]] Z fun e w' => e = .returned (.bool true) ∧ Keep Z w')
    (hend : ∀ vs w', vs 2 = some (.bool false) → Keep w.drew w' → Q .normal (lay a0 (Lmx (y16T gT gS gc ga g7 am ac n pn pc bb bo bn bc kn kc sn sc tn tc pa ka sa ta f b0 b1 vv) vs)) w') :
    (Code.region 16 y16 true).wp Try.prog Q a0 w := by
  refine wp_region_mx (by rfl) (y16T gT gS gc ga g7 am ac n pn pc bb bo bn bc kn kc sn sc tn tc pa ka sa ta f b0 b1 vv) [72, 73, 74, 75, 76, 77, 78, 79, 80, 81, 82] [none, none, none, none, none, none, none, some 0, none, some 1, some 2] [7, 9, 10] rfl rfl rfl y16_chk (by decide) (by decide) (by
    intro d hd
    rw [hz0]
    have : ∀ y ∈ [72, 73, 74, 75, 76, 77, 78, 79, 80, 81, 82], y < 91 := by decide
    exact this _ hd) (fun vs w' => Keep w.drew w' ∧ (∀ u, vs 0 = some u → vs 1 = none → V0 u w') ∧ (∀ u, vs 1 = some u → u = .bool true) ∧ (∀ u, vs 2 = some u → u = .bool false)) ⟨Keep.refl _, (fun u h => by cases h), (fun u h => by cases h), (fun u h => by cases h)⟩ ?_ ?_
  · intro i d x hT listed vs a w' h
    match i, hT with
    | 0, hT =>
      obtain ⟨rfl, rfl⟩ := Prod.mk.inj (Option.some.inj (show some ((some 72 : Option Nat), (.inl (.pointer (some ⟨gS, 0, none⟩)) : Value ⊕ Nat)) = some (d, x) from hT))
      exact wpOp_of _ rfl rfl (v_move (.tmp 4) _ rfl (veval_of ((h.ot 4 (by decide)).trans h4)) ⟨rfl, rfl⟩)
    | 1, hT =>
      obtain ⟨rfl, rfl⟩ := Prod.mk.inj (Option.some.inj (show some ((some 73 : Option Nat), (.inl (.pointer (some ⟨gS, 0, none⟩)) : Value ⊕ Nat)) = some (d, x) from hT))
      exact wpOp_of _ rfl rfl (v_nil (.tmp 72) _ rfl (veval_of (h.val 0 72 _ rfl (by decide))) ⟨rfl, rfl⟩)
    | 2, hT =>
      obtain ⟨rfl, rfl⟩ := Prod.mk.inj (Option.some.inj (show some ((some 74 : Option Nat), (.inl (.pointer (some ⟨gS, 7, none⟩)) : Value ⊕ Nat)) = some (d, x) from hT))
      exact wpOp_of _ rfl rfl (v_f52c (.tmp 73) 4 _ 7 rfl (by decide) (veval_of (h.val 1 73 _ rfl (by decide))) ⟨rfl, rfl⟩)
    | 3, hT =>
      obtain ⟨rfl, rfl⟩ := Prod.mk.inj (Option.some.inj (show some ((some 75 : Option Nat), (.inl (.slice (some ⟨ga, 0, none⟩) am ac) : Value ⊕ Nat)) = some (d, x) from hT))
      exact wpOp_of _ rfl rfl (v_load49 (.tmp 74) _ _ _ rfl (veval_of (h.val 2 74 _ rfl (by decide))) (h.r.1.cell q49) ⟨rfl, rfl⟩)
    | 4, hT =>
      obtain ⟨rfl, rfl⟩ := Prod.mk.inj (Option.some.inj (show some ((some 76 : Option Nat), (.inl (.int .i64 ((n : Nat) : Int)) : Value ⊕ Nat)) = some (d, x) from hT))
      exact wpOp_of _ rfl rfl (v_move (.tmp 8) _ rfl (veval_of ((h.ot 8 (by decide)).trans h8)) ⟨rfl, rfl⟩)
    | 5, hT =>
      obtain ⟨rfl, rfl⟩ := Prod.mk.inj (Option.some.inj (show some ((some 77 : Option Nat), (.inl (.pointer (some ⟨ga, n * 2, none⟩)) : Value ⊕ Nat)) = some (d, x) from hT))
      exact wpOp_of _ rfl rfl (v_idx49 (.tmp 75) (.tmp 76) _ _ _ _ rfl (veval_of (h.val 3 75 _ rfl (by decide))) (veval_of (h.val 4 76 _ rfl (by decide))) hn ⟨rfl, rfl⟩)
    | 6, hT =>
      obtain ⟨rfl, rfl⟩ := Prod.mk.inj (Option.some.inj (show some ((some 78 : Option Nat), (.inl (vv) : Value ⊕ Nat)) = some (d, x) from hT))
      exact wpOp_of _ rfl rfl (v_move (.tmp 6) _ rfl (veval_of ((h.ot 6 (by decide)).trans h6)) ⟨rfl, rfl⟩)
    | 7, hT =>
      obtain ⟨rfl, rfl⟩ := Prod.mk.inj (Option.some.inj (show some ((some 79 : Option Nat), (.inr 0 : Value ⊕ Nat)) = some (d, x) from hT))
      have n1 := h.later 1 9 rfl 11 (by kernel_rfl)
      have n2 := h.later 2 10 rfl 11 (by kernel_rfl)
      refine wpOp_of _ rfl rfl (v_call 14 _ _ rfl _ Try.func14 (by kernel_rfl) (by kernel_rfl) #[.pointer (some ⟨ga, n * 2, none⟩), vv] (by simp [veval_of (h.val 5 77 _ rfl (by decide)), veval_of (h.val 6 78 _ rfl (by decide))]; first | done | rfl | exact ⟨rfl, rfl⟩ | exact ⟨rfl, rfl, rfl⟩) ((k0 w' h.r.1).mono ?_))
      rintro e y ⟨u, rfl, hu, kz⟩
      exact ⟨_, rfl, _, rfl, h.r.1.trans kz, fun u' hu' _ => (by rw [upv_same] at hu'; rw [← Option.some.inj hu']; exact hu), fun u' hu' => (by have h9 : vs 1 = some u' := hu'; rw [n1] at h9; cases h9), fun u' hu' => (by have h9 : vs 2 = some u' := hu'; rw [n2] at h9; cases h9)⟩
    | 8, hT =>
      obtain ⟨rfl, rfl⟩ := Prod.mk.inj (Option.some.inj (show some ((some 80 : Option Nat), (.inl (.agg #[.slice sa sn sc, .bool b0]) : Value ⊕ Nat)) = some (d, x) from hT))
      exact wpOp_of _ rfl rfl (v_load37 (.tmp 7) _ _ _ _ rfl (veval_of ((h.ot 7 (by decide)).trans h7)) (h.r.1.cell s0) (h.r.1.cell s1) ⟨rfl, rfl⟩)
    | 9, hT =>
      obtain ⟨rfl, rfl⟩ := Prod.mk.inj (Option.some.inj (show some ((some 81 : Option Nat), (.inr 1 : Value ⊕ Nat)) = some (d, x) from hT))
      obtain ⟨u0, e0⟩ := h.has 0 7 rfl 11 (by kernel_rfl)
      have n1 := h.not 1 rfl
      have n2 := h.later 2 10 rfl 11 (by kernel_rfl)
      have hv0 := h.r.2.1 u0 e0 n1
      refine wpOp_of _ rfl rfl (v_call 13 _ _ rfl _ Try.func13 (by kernel_rfl) (by kernel_rfl) #[u0, .agg #[.slice sa sn sc, .bool b0]] (by simp [veval_of (h.vale 7 79 0 rfl (by decide) e0), veval_of (h.val 8 80 _ rfl (by decide))]; first | done | rfl | exact ⟨rfl, rfl⟩ | exact ⟨rfl, rfl, rfl⟩) ((k1 w' u0 h.r.1 hv0).mono ?_))
      rintro e y ⟨rfl, kz⟩
      exact ⟨_, rfl, _, rfl, h.r.1.trans kz, fun u' _ hu' => (by cases hu'), fun u' hu' => (by rw [upv_same] at hu'; exact (Option.some.inj hu').symm), fun u' hu' => (by have h9 : vs 2 = some u' := hu'; rw [n2] at h9; cases h9)⟩
    | 10, hT =>
      obtain ⟨rfl, rfl⟩ := Prod.mk.inj (Option.some.inj (show some ((some 82 : Option Nat), (.inr 2 : Value ⊕ Nat)) = some (d, x) from hT))
      obtain ⟨u1, e1⟩ := h.has 1 9 rfl 11 (by kernel_rfl)
      have hu1 := h.r.2.2.1 u1 e1
      subst hu1
      exact wpOp_of _ rfl rfl (v_not 81 true rfl (h.vale 9 81 1 rfl (by decide) e1) ⟨_, rfl, h.r.1, h.r.2.1, h.r.2.2.1, fun u hu => by rw [upv_same] at hu; exact (Option.some.inj hu).symm⟩)
    | i + 11, hT => simp [y16T] at hT
  · intro vs w' hv hR
    obtain ⟨u, e⟩ := hv 2 (by decide)
    have hu := hR.2.2.2 u e
    subst hu
    exact hend vs w' e hR.1
def y19 : Array Oper := #[{ dst := some 84, op := Go.Op.move (Go.Operand.tmp 4), type := 41, pos := "laws.go:51", after := #[], guard := none }, { dst := some 85, op := Go.Op.nilCheck (Go.Operand.tmp 84), type := 0, pos := "laws.go:51", after := #[{ on := 0, ground := Go.Ground.data }], guard := none }, { dst := some 86, op := Go.Op.fieldAddr 52 (Go.Operand.tmp 85) 3, type := 0, pos := "laws.go:51", after := #[{ on := 1, ground := Go.Ground.data }], guard := none }, { dst := some 87, op := Go.Op.move (Go.Operand.tmp 6), type := 53, pos := "laws.go:51", after := #[], guard := none }, { dst := some 88, op := Go.Op.call { callee := Go.Callee.value (Go.Operand.func 14), args := #[Go.Operand.tmp 86, Go.Operand.tmp 87], argTypes := #[48, 53] }, type := 37, pos := "laws.go:51", after := #[{ on := 2, ground := Go.Ground.data }, { on := 3, ground := Go.Ground.data }], guard := none }, { dst := some 89, op := Go.Op.load 37 (Go.Operand.tmp 7), type := 37, pos := "laws.go:51", after := #[], guard := none }, { dst := some 90, op := Go.Op.call { callee := Go.Callee.value (Go.Operand.func 13), args := #[Go.Operand.tmp 88, Go.Operand.tmp 89], argTypes := #[37, 37] }, type := 4, pos := "laws.go:51", after := #[{ on := 4, ground := Go.Ground.data }, { on := 5, ground := Go.Ground.data }, { on := 4, ground := Go.Ground.chain }], guard := none }, { dst := some 2, op := Go.Op.assign (Go.Operand.tmp 90), type := 4, pos := "laws.go:51", after := #[{ on := 6, ground := Go.Ground.data }, { on := 6, ground := Go.Ground.chain }, { on := 0, ground := Go.Ground.phase }, { on := 1, ground := Go.Ground.phase }, { on := 2, ground := Go.Ground.phase }, { on := 3, ground := Go.Ground.phase }, { on := 4, ground := Go.Ground.phase }, { on := 5, ground := Go.Ground.phase }, { on := 6, ground := Go.Ground.phase }], guard := none }]
def y19T (gT gS gc ga g7 am ac n pn pc bb bo bn bc kn kc sn sc tn tc : Nat) (pa ka sa ta : Option Addr) (f : EF) (b0 b1 : Bool) (vv : Value) : List (Option Nat × (Value ⊕ Nat)) := [(some 84, .inl (.pointer (some ⟨gS, 0, none⟩))), (some 85, .inl (.pointer (some ⟨gS, 0, none⟩))), (some 86, .inl (.pointer (some ⟨gS, 5, none⟩))), (some 87, .inl (vv)), (some 88, .inr 0), (some 89, .inl (.agg #[.slice sa sn sc, .bool b0])), (some 90, .inr 1), (some 2, .inr 2)]
theorem y19_chk : chk y19 y19.size = true := by kernel_rfl
set_option maxRecDepth 4000 in
set_option maxHeartbeats 4000000 in
theorem y19_c {Q : Exit → Act → World → Prop} {a0 : Act} {w : World} (gT gS gc ga g7 am ac n pn pc bb bo bn bc kn kc sn sc tn tc : Nat) (pa ka sa ta : Option Addr) (f : EF) (b0 b1 : Bool) (vv : Value) (hz0 : a0.tmps.size = 91) (h4 : a0.tmps[4]? = some (.pointer (some ⟨gS, 0, none⟩))) (h6 : a0.tmps[6]? = some (vv)) (h7 : a0.tmps[7]? = some (.pointer (some ⟨g7, 0, none⟩))) (s0 : w.drew.cell? ⟨g7, 0, none⟩ = some (.slice sa sn sc)) (s1 : w.drew.cell? ⟨g7, 1, none⟩ = some (.bool b0)) (V0 : Value → World → Prop) (k0 : ∀ Z, Keep w.drew Z → Calls Try.prog 14 #[.pointer (some ⟨gS, 5, none⟩), vv] Z fun e w' => ∃ u, e = .returned u ∧ V0 u w' ∧ Keep Z w') (k1 : ∀ Z u, Keep w.drew Z → V0 u Z → Calls Try.prog 13 #[u, .agg #[.slice sa sn sc, .bool b0]] Z fun e w' => e = .returned (.bool true) ∧ Keep Z w')
    (hend : ∀ vs w', vs 2 = some (.bool true) → Keep w.drew w' → Q .normal (lay a0 (Lmx (y19T gT gS gc ga g7 am ac n pn pc bb bo bn bc kn kc sn sc tn tc pa ka sa ta f b0 b1 vv) vs)) w') :
    (Code.region 19 y19 true).wp Try.prog Q a0 w := by
  refine wp_region_mx (by rfl) (y19T gT gS gc ga g7 am ac n pn pc bb bo bn bc kn kc sn sc tn tc pa ka sa ta f b0 b1 vv) [84, 85, 86, 87, 88, 89, 90, 2] [none, none, none, none, some 0, none, some 1, some 2] [4, 6, 7] rfl rfl rfl y19_chk (by decide) (by decide) (by
    intro d hd
    rw [hz0]
    have : ∀ y ∈ [84, 85, 86, 87, 88, 89, 90, 2], y < 91 := by decide
    exact this _ hd) (fun vs w' => Keep w.drew w' ∧ (∀ u, vs 0 = some u → vs 1 = none → V0 u w') ∧ (∀ u, vs 1 = some u → u = .bool true) ∧ (∀ u, vs 2 = some u → u = .bool true)) ⟨Keep.refl _, (fun u h => by cases h), (fun u h => by cases h), (fun u h => by cases h)⟩ ?_ ?_
  · intro i d x hT listed vs a w' h
    match i, hT with
    | 0, hT =>
      obtain ⟨rfl, rfl⟩ := Prod.mk.inj (Option.some.inj (show some ((some 84 : Option Nat), (.inl (.pointer (some ⟨gS, 0, none⟩)) : Value ⊕ Nat)) = some (d, x) from hT))
      exact wpOp_of _ rfl rfl (v_move (.tmp 4) _ rfl (veval_of ((h.ot 4 (by decide)).trans h4)) ⟨rfl, rfl⟩)
    | 1, hT =>
      obtain ⟨rfl, rfl⟩ := Prod.mk.inj (Option.some.inj (show some ((some 85 : Option Nat), (.inl (.pointer (some ⟨gS, 0, none⟩)) : Value ⊕ Nat)) = some (d, x) from hT))
      exact wpOp_of _ rfl rfl (v_nil (.tmp 84) _ rfl (veval_of (h.val 0 84 _ rfl (by decide))) ⟨rfl, rfl⟩)
    | 2, hT =>
      obtain ⟨rfl, rfl⟩ := Prod.mk.inj (Option.some.inj (show some ((some 86 : Option Nat), (.inl (.pointer (some ⟨gS, 5, none⟩)) : Value ⊕ Nat)) = some (d, x) from hT))
      exact wpOp_of _ rfl rfl (v_f52c (.tmp 85) 3 _ 5 rfl (by decide) (veval_of (h.val 1 85 _ rfl (by decide))) ⟨rfl, rfl⟩)
    | 3, hT =>
      obtain ⟨rfl, rfl⟩ := Prod.mk.inj (Option.some.inj (show some ((some 87 : Option Nat), (.inl (vv) : Value ⊕ Nat)) = some (d, x) from hT))
      exact wpOp_of _ rfl rfl (v_move (.tmp 6) _ rfl (veval_of ((h.ot 6 (by decide)).trans h6)) ⟨rfl, rfl⟩)
    | 4, hT =>
      obtain ⟨rfl, rfl⟩ := Prod.mk.inj (Option.some.inj (show some ((some 88 : Option Nat), (.inr 0 : Value ⊕ Nat)) = some (d, x) from hT))
      have n1 := h.later 1 6 rfl 8 (by kernel_rfl)
      have n2 := h.later 2 7 rfl 8 (by kernel_rfl)
      refine wpOp_of _ rfl rfl (v_call 14 _ _ rfl _ Try.func14 (by kernel_rfl) (by kernel_rfl) #[.pointer (some ⟨gS, 5, none⟩), vv] (by simp [veval_of (h.val 2 86 _ rfl (by decide)), veval_of (h.val 3 87 _ rfl (by decide))]; first | done | rfl | exact ⟨rfl, rfl⟩ | exact ⟨rfl, rfl, rfl⟩) ((k0 w' h.r.1).mono ?_))
      rintro e y ⟨u, rfl, hu, kz⟩
      exact ⟨_, rfl, _, rfl, h.r.1.trans kz, fun u' hu' _ => (by rw [upv_same] at hu'; rw [← Option.some.inj hu']; exact hu), fun u' hu' => (by have h9 : vs 1 = some u' := hu'; rw [n1] at h9; cases h9), fun u' hu' => (by have h9 : vs 2 = some u' := hu'; rw [n2] at h9; cases h9)⟩
    | 5, hT =>
      obtain ⟨rfl, rfl⟩ := Prod.mk.inj (Option.some.inj (show some ((some 89 : Option Nat), (.inl (.agg #[.slice sa sn sc, .bool b0]) : Value ⊕ Nat)) = some (d, x) from hT))
      exact wpOp_of _ rfl rfl (v_load37 (.tmp 7) _ _ _ _ rfl (veval_of ((h.ot 7 (by decide)).trans h7)) (h.r.1.cell s0) (h.r.1.cell s1) ⟨rfl, rfl⟩)
    | 6, hT =>
      obtain ⟨rfl, rfl⟩ := Prod.mk.inj (Option.some.inj (show some ((some 90 : Option Nat), (.inr 1 : Value ⊕ Nat)) = some (d, x) from hT))
      obtain ⟨u0, e0⟩ := h.has 0 4 rfl 8 (by kernel_rfl)
      have n1 := h.not 1 rfl
      have n2 := h.later 2 7 rfl 8 (by kernel_rfl)
      have hv0 := h.r.2.1 u0 e0 n1
      refine wpOp_of _ rfl rfl (v_call 13 _ _ rfl _ Try.func13 (by kernel_rfl) (by kernel_rfl) #[u0, .agg #[.slice sa sn sc, .bool b0]] (by simp [veval_of (h.vale 4 88 0 rfl (by decide) e0), veval_of (h.val 5 89 _ rfl (by decide))]; first | done | rfl | exact ⟨rfl, rfl⟩ | exact ⟨rfl, rfl, rfl⟩) ((k1 w' u0 h.r.1 hv0).mono ?_))
      rintro e y ⟨rfl, kz⟩
      exact ⟨_, rfl, _, rfl, h.r.1.trans kz, fun u' _ hu' => (by cases hu'), fun u' hu' => (by rw [upv_same] at hu'; exact (Option.some.inj hu').symm), fun u' hu' => (by have h9 : vs 2 = some u' := hu'; rw [n2] at h9; cases h9)⟩
    | 7, hT =>
      obtain ⟨rfl, rfl⟩ := Prod.mk.inj (Option.some.inj (show some ((some 2 : Option Nat), (.inr 2 : Value ⊕ Nat)) = some (d, x) from hT))
      obtain ⟨u1, e1⟩ := h.has 1 6 rfl 8 (by kernel_rfl)
      have hu1 := h.r.2.2.1 u1 e1
      subst hu1
      exact wpOp_of _ rfl rfl (v_asg (.tmp 90) _ rfl (veval_of (h.vale 6 90 1 rfl (by decide) e1)) ⟨_, rfl, h.r.1, h.r.2.1, h.r.2.2.1, fun u hu => by rw [upv_same] at hu; exact (Option.some.inj hu).symm⟩)
    | i + 8, hT => simp [y19T] at hT
  · intro vs w' hv hR
    obtain ⟨u, e⟩ := hv 2 (by decide)
    have hu := hR.2.2.2 u e
    subst hu
    exact hend vs w' e hR.1
end Go.Proofs.Qxb6500772a
