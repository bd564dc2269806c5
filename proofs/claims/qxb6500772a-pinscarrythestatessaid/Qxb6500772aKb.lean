/- blastlaw: the last region of PinsCarryTheStates. -/
import Derived.Test.Qxb6500772aKa
namespace Go.Proofs.Qxb6500772a
open Go Go.RowKit Go.Qm
set_option linter.unusedVariables false
set_option linter.unusedSimpArgs false
def kb : Array Oper := #[{ dst := some 66, op := Go.Op.move (Go.Operand.tmp 9), type := 55, pos := "laws.go:136", after := #[], guard := none }, { dst := some 67, op := Go.Op.call { callee := Go.Callee.builtin Go.Builtin.len, args := #[Go.Operand.tmp 66], argTypes := #[55] }, type := 3, pos := "laws.go:136", after := #[{ on := 0, ground := Go.Ground.data }], guard := none }, { dst := some 68, op := Go.Op.move (Go.Operand.tmp 4), type := 41, pos := "laws.go:136", after := #[], guard := none }, { dst := some 69, op := Go.Op.nilCheck (Go.Operand.tmp 68), type := 0, pos := "laws.go:136", after := #[{ on := 2, ground := Go.Ground.data }], guard := none }, { dst := some 70, op := Go.Op.fieldAddr 52 (Go.Operand.tmp 69) 0, type := 0, pos := "laws.go:136", after := #[{ on := 3, ground := Go.Ground.data }], guard := none }, { dst := some 71, op := Go.Op.load 44 (Go.Operand.tmp 70), type := 44, pos := "laws.go:136", after := #[{ on := 4, ground := Go.Ground.data }], guard := none }, { dst := some 72, op := Go.Op.call { callee := Go.Callee.value (Go.Operand.func 17), args := #[Go.Operand.tmp 71], argTypes := #[44] }, type := 3, pos := "laws.go:136", after := #[{ on := 5, ground := Go.Ground.data }], guard := none }, { dst := some 73, op := Go.Op.binOp Go.BinOp.eql 3 (Go.Operand.tmp 67) (Go.Operand.tmp 72) 3, type := 4, pos := "laws.go:136", after := #[{ on := 1, ground := Go.Ground.data }, { on := 6, ground := Go.Ground.data }], guard := none }, { dst := some 74, op := Go.Op.move (Go.Operand.tmp 73), type := 4, pos := "laws.go:136", after := #[{ on := 7, ground := Go.Ground.data }, { on := 6, ground := Go.Ground.chain }], guard := none }, { dst := some 75, op := Go.Op.load 37 (Go.Operand.tmp 10), type := 37, pos := "laws.go:136", after := #[{ on := 8, ground := Go.Ground.guard }], guard := some (8, true) }, { dst := some 76, op := Go.Op.fieldAddr 39 (Go.Operand.tmp 3) 2, type := 0, pos := "laws.go:136", after := #[{ on := 8, ground := Go.Ground.guard }], guard := some (8, true) }, { dst := some 77, op := Go.Op.load 37 (Go.Operand.tmp 76), type := 37, pos := "laws.go:136", after := #[{ on := 10, ground := Go.Ground.data }, { on := 8, ground := Go.Ground.guard }], guard := some (8, true) }, { dst := some 78, op := Go.Op.call { callee := Go.Callee.value (Go.Operand.func 13), args := #[Go.Operand.tmp 75, Go.Operand.tmp 77], argTypes := #[37, 37] }, type := 4, pos := "laws.go:136", after := #[{ on := 9, ground := Go.Ground.data }, { on := 11, ground := Go.Ground.data }, { on := 8, ground := Go.Ground.chain }, { on := 8, ground := Go.Ground.guard }], guard := some (8, true) }, { dst := some 79, op := Go.Op.pick (Go.Operand.tmp 74) (Go.Operand.tmp 78) (Go.Operand.const (Go.Value.bool false)), type := 4, pos := "laws.go:136", after := #[{ on := 8, ground := Go.Ground.data }, { on := 12, ground := Go.Ground.data }], guard := none }, { dst := some 80, op := Go.Op.move (Go.Operand.tmp 79), type := 4, pos := "laws.go:136", after := #[{ on := 13, ground := Go.Ground.data }, { on := 12, ground := Go.Ground.chain }], guard := none }, { dst := some 81, op := Go.Op.load 37 (Go.Operand.tmp 11), type := 37, pos := "laws.go:136", after := #[{ on := 14, ground := Go.Ground.guard }], guard := some (14, true) }, { dst := some 82, op := Go.Op.load 37 (Go.Operand.tmp 6), type := 37, pos := "laws.go:136", after := #[{ on := 14, ground := Go.Ground.guard }], guard := some (14, true) }, { dst := some 83, op := Go.Op.call { callee := Go.Callee.value (Go.Operand.func 13), args := #[Go.Operand.tmp 81, Go.Operand.tmp 82], argTypes := #[37, 37] }, type := 4, pos := "laws.go:136", after := #[{ on := 15, ground := Go.Ground.data }, { on := 16, ground := Go.Ground.data }, { on := 14, ground := Go.Ground.chain }, { on := 14, ground := Go.Ground.guard }], guard := some (14, true) }, { dst := some 84, op := Go.Op.pick (Go.Operand.tmp 80) (Go.Operand.tmp 83) (Go.Operand.const (Go.Value.bool false)), type := 4, pos := "laws.go:136", after := #[{ on := 14, ground := Go.Ground.data }, { on := 17, ground := Go.Ground.data }], guard := none }, { dst := some 85, op := Go.Op.move (Go.Operand.tmp 84), type := 4, pos := "laws.go:136", after := #[{ on := 18, ground := Go.Ground.data }, { on := 17, ground := Go.Ground.chain }], guard := none }, { dst := some 86, op := Go.Op.move (Go.Operand.tmp 4), type := 41, pos := "laws.go:136", after := #[{ on := 19, ground := Go.Ground.guard }], guard := some (19, true) }, { dst := some 87, op := Go.Op.nilCheck (Go.Operand.tmp 86), type := 0, pos := "laws.go:136", after := #[{ on := 20, ground := Go.Ground.data }, { on := 19, ground := Go.Ground.guard }], guard := some (19, true) }, { dst := some 88, op := Go.Op.fieldAddr 52 (Go.Operand.tmp 87) 1, type := 0, pos := "laws.go:136", after := #[{ on := 21, ground := Go.Ground.data }, { on := 19, ground := Go.Ground.guard }], guard := some (19, true) }, { dst := some 89, op := Go.Op.move (Go.Operand.tmp 12), type := 53, pos := "laws.go:136", after := #[{ on := 19, ground := Go.Ground.guard }], guard := some (19, true) }, { dst := some 90, op := Go.Op.call { callee := Go.Callee.value (Go.Operand.func 14), args := #[Go.Operand.tmp 88, Go.Operand.tmp 89], argTypes := #[48, 53] }, type := 37, pos := "laws.go:137", after := #[{ on := 22, ground := Go.Ground.data }, { on := 23, ground := Go.Ground.data }, { on := 19, ground := Go.Ground.chain }, { on := 19, ground := Go.Ground.guard }], guard := some (19, true) }, { dst := some 91, op := Go.Op.fieldAddr 39 (Go.Operand.tmp 3) 2, type := 0, pos := "laws.go:136", after := #[{ on := 19, ground := Go.Ground.guard }], guard := some (19, true) }, { dst := some 92, op := Go.Op.load 37 (Go.Operand.tmp 91), type := 37, pos := "laws.go:136", after := #[{ on := 25, ground := Go.Ground.data }, { on := 19, ground := Go.Ground.guard }], guard := some (19, true) }, { dst := some 93, op := Go.Op.call { callee := Go.Callee.value (Go.Operand.func 13), args := #[Go.Operand.tmp 90, Go.Operand.tmp 92], argTypes := #[37, 37] }, type := 4, pos := "laws.go:137", after := #[{ on := 24, ground := Go.Ground.data }, { on := 26, ground := Go.Ground.data }, { on := 24, ground := Go.Ground.chain }, { on := 19, ground := Go.Ground.guard }], guard := some (19, true) }, { dst := some 94, op := Go.Op.pick (Go.Operand.tmp 85) (Go.Operand.tmp 93) (Go.Operand.const (Go.Value.bool false)), type := 4, pos := "laws.go:136", after := #[{ on := 19, ground := Go.Ground.data }, { on := 27, ground := Go.Ground.data }], guard := none }, { dst := some 95, op := Go.Op.move (Go.Operand.tmp 94), type := 4, pos := "laws.go:136", after := #[{ on := 28, ground := Go.Ground.data }, { on := 27, ground := Go.Ground.chain }], guard := none }, { dst := some 96, op := Go.Op.move (Go.Operand.tmp 4), type := 41, pos := "laws.go:136", after := #[{ on := 29, ground := Go.Ground.guard }], guard := some (29, true) }, { dst := some 97, op := Go.Op.nilCheck (Go.Operand.tmp 96), type := 0, pos := "laws.go:136", after := #[{ on := 30, ground := Go.Ground.data }, { on := 29, ground := Go.Ground.guard }], guard := some (29, true) }, { dst := some 98, op := Go.Op.fieldAddr 52 (Go.Operand.tmp 97) 2, type := 0, pos := "laws.go:136", after := #[{ on := 31, ground := Go.Ground.data }, { on := 29, ground := Go.Ground.guard }], guard := some (29, true) }, { dst := some 99, op := Go.Op.move (Go.Operand.tmp 12), type := 53, pos := "laws.go:136", after := #[{ on := 29, ground := Go.Ground.guard }], guard := some (29, true) }, { dst := some 100, op := Go.Op.call { callee := Go.Callee.value (Go.Operand.func 14), args := #[Go.Operand.tmp 98, Go.Operand.tmp 99], argTypes := #[48, 53] }, type := 37, pos := "laws.go:137", after := #[{ on := 32, ground := Go.Ground.data }, { on := 33, ground := Go.Ground.data }, { on := 29, ground := Go.Ground.chain }, { on := 29, ground := Go.Ground.guard }], guard := some (29, true) }, { dst := some 101, op := Go.Op.load 37 (Go.Operand.tmp 6), type := 37, pos := "laws.go:136", after := #[{ on := 29, ground := Go.Ground.guard }], guard := some (29, true) }, { dst := some 102, op := Go.Op.call { callee := Go.Callee.value (Go.Operand.func 13), args := #[Go.Operand.tmp 100, Go.Operand.tmp 101], argTypes := #[37, 37] }, type := 4, pos := "laws.go:137", after := #[{ on := 34, ground := Go.Ground.data }, { on := 35, ground := Go.Ground.data }, { on := 34, ground := Go.Ground.chain }, { on := 29, ground := Go.Ground.guard }], guard := some (29, true) }, { dst := some 103, op := Go.Op.pick (Go.Operand.tmp 95) (Go.Operand.tmp 102) (Go.Operand.const (Go.Value.bool false)), type := 4, pos := "laws.go:136", after := #[{ on := 29, ground := Go.Ground.data }, { on := 36, ground := Go.Ground.data }], guard := none }, { dst := some 2, op := Go.Op.assign (Go.Operand.tmp 103), type := 4, pos := "laws.go:136", after := #[{ on := 37, ground := Go.Ground.data }, { on := 36, ground := Go.Ground.chain }, { on := 0, ground := Go.Ground.phase }, { on := 1, ground := Go.Ground.phase }, { on := 2, ground := Go.Ground.phase }, { on := 3, ground := Go.Ground.phase }, { on := 4, ground := Go.Ground.phase }, { on := 5, ground := Go.Ground.phase }, { on := 6, ground := Go.Ground.phase }, { on := 7, ground := Go.Ground.phase }, { on := 8, ground := Go.Ground.phase }, { on := 9, ground := Go.Ground.phase }, { on := 10, ground := Go.Ground.phase }, { on := 11, ground := Go.Ground.phase }, { on := 12, ground := Go.Ground.phase }, { on := 13, ground := Go.Ground.phase }, { on := 14, ground := Go.Ground.phase }, { on := 15, ground := Go.Ground.phase }, { on := 16, ground := Go.Ground.phase }, { on := 17, ground := Go.Ground.phase }, { on := 18, ground := Go.Ground.phase }, { on := 19, ground := Go.Ground.phase }, { on := 20, ground := Go.Ground.phase }, { on := 21, ground := Go.Ground.phase }, { on := 22, ground := Go.Ground.phase }, { on := 23, ground := Go.Ground.phase }, { on := 24, ground := Go.Ground.phase }, { on := 25, ground := Go.Ground.phase }, { on := 26, ground := Go.Ground.phase }, { on := 27, ground := Go.Ground.phase }, { on := 28, ground := Go.Ground.phase }, { on := 29, ground := Go.Ground.phase }, { on := 30, ground := Go.Ground.phase }, { on := 31, ground := Go.Ground.phase }, { on := 32, ground := Go.Ground.phase }, { on := 33, ground := Go.Ground.phase }, { on := 34, ground := Go.Ground.phase }, { on := 35, ground := Go.Ground.phase }, { on := 36, ground := Go.Ground.phase }, { on := 37, ground := Go.Ground.phase }], guard := none }]
def kbT (gT gS gc g6 g10 g11 ia n : Nat) (s0 s1 n0 n1 c0 c1 d0 d1 vv : Value) : List (Option Nat × (Value ⊕ Nat)) := [(some 66, .inl (.slice (some ⟨ia, 0, none⟩) n n)), (some 67, .inl (.int .i64 ((n : Nat) : Int))), (some 68, .inl (.pointer (some ⟨gS, 0, none⟩))), (some 69, .inl (.pointer (some ⟨gS, 0, none⟩))), (some 70, .inl (.pointer (some ⟨gS, 0, none⟩))), (some 71, .inl (.pointer (some ⟨gc, 0, none⟩))), (some 72, .inr 0), (some 73, .inl (.bool true)), (some 74, .inl (.bool true)), (some 75, .inl (.agg #[c0, c1])), (some 76, .inl (.pointer (some ⟨gT, 10, none⟩))), (some 77, .inl (.agg #[s0, s1])), (some 78, .inr 1), (some 79, .inl (.bool true)), (some 80, .inl (.bool true)), (some 81, .inl (.agg #[d0, d1])), (some 82, .inl (.agg #[n0, n1])), (some 83, .inr 2), (some 84, .inl (.bool true)), (some 85, .inl (.bool true)), (some 86, .inl (.pointer (some ⟨gS, 0, none⟩))), (some 87, .inl (.pointer (some ⟨gS, 0, none⟩))), (some 88, .inl (.pointer (some ⟨gS, 1, none⟩))), (some 89, .inl (vv)), (some 90, .inr 3), (some 91, .inl (.pointer (some ⟨gT, 10, none⟩))), (some 92, .inl (.agg #[s0, s1])), (some 93, .inr 4), (some 94, .inl (.bool true)), (some 95, .inl (.bool true)), (some 96, .inl (.pointer (some ⟨gS, 0, none⟩))), (some 97, .inl (.pointer (some ⟨gS, 0, none⟩))), (some 98, .inl (.pointer (some ⟨gS, 3, none⟩))), (some 99, .inl (vv)), (some 100, .inr 5), (some 101, .inl (.agg #[n0, n1])), (some 102, .inr 6), (some 103, .inl (.bool true)), (some 2, .inl (.bool true))]
theorem kb_chk : chk kb kb.size = true := by kernel_rfl
set_option maxRecDepth 4000 in
set_option maxHeartbeats 4000000 in
theorem kb_c {Q : Exit → Act → World → Prop} {a0 : Act} {w : World} (gT gS gc g6 g10 g11 ia n : Nat) (s0 s1 n0 n1 c0 c1 d0 d1 vv : Value) (hz0 : a0.tmps.size = 104) (h3 : a0.tmps[3]? = some (.pointer (some ⟨gT, 0, none⟩))) (h4 : a0.tmps[4]? = some (.pointer (some ⟨gS, 0, none⟩))) (h6 : a0.tmps[6]? = some (.pointer (some ⟨g6, 0, none⟩))) (h9 : a0.tmps[9]? = some (.slice (some ⟨ia, 0, none⟩) n n)) (h10 : a0.tmps[10]? = some (.pointer (some ⟨g10, 0, none⟩))) (h11 : a0.tmps[11]? = some (.pointer (some ⟨g11, 0, none⟩))) (h12 : a0.tmps[12]? = some (vv)) (m0 : w.drew.cell? ⟨g10, 0, none⟩ = some (c0)) (m1 : w.drew.cell? ⟨g10, 1, none⟩ = some (c1)) (m2 : w.drew.cell? ⟨g11, 0, none⟩ = some (d0)) (m3 : w.drew.cell? ⟨g11, 1, none⟩ = some (d1)) (m4 : w.drew.cell? ⟨g6, 0, none⟩ = some (n0)) (m5 : w.drew.cell? ⟨g6, 1, none⟩ = some (n1)) (m6 : w.drew.cell? ⟨gS, 0, none⟩ = some (.pointer (some ⟨gc, 0, none⟩))) (m7 : w.drew.cell? ⟨gT, 10, none⟩ = some (s0)) (m8 : w.drew.cell? ⟨gT, 11, none⟩ = some (s1))  (VV : Nat → Value → World → Prop) (hVV : ∀ k u Z Z', Keep Z Z' → VV k u Z → VV k u Z') (k0 : ∀ (Z : World), Keep w.drew Z → Calls Try.prog 17 #[.pointer (some ⟨gc, 0, none⟩)] Z fun e w' => ∃ u, e = .returned u ∧ VV 0 u w' ∧ Keep Z w') (x0 : ∀ u Z, VV 0 u Z → u = .int .i64 ((n : Nat) : Int)) (k1 : ∀ (Z : World), Keep w.drew Z → Calls Try.prog 13 #[.agg #[c0, c1], .agg #[s0, s1]] Z fun e w' => ∃ u, e = .returned u ∧ VV 1 u w' ∧ Keep Z w') (x1 : ∀ u Z, VV 1 u Z → u = .bool true) (k2 : ∀ (Z : World), Keep w.drew Z → Calls Try.prog 13 #[.agg #[d0, d1], .agg #[n0, n1]] Z fun e w' => ∃ u, e = .returned u ∧ VV 2 u w' ∧ Keep Z w') (x2 : ∀ u Z, VV 2 u Z → u = .bool true) (k3 : ∀ (Z : World), Keep w.drew Z → Calls Try.prog 14 #[.pointer (some ⟨gS, 1, none⟩), vv] Z fun e w' => ∃ u, e = .returned u ∧ VV 3 u w' ∧ Keep Z w') (k4 : ∀ (Z : World) (u3 : Value), Keep w.drew Z → VV 3 u3 Z → Calls Try.prog 13 #[u3, .agg #[s0, s1]] Z fun e w' => ∃ u, e = .returned u ∧ VV 4 u w' ∧ Keep Z w') (x4 : ∀ u Z, VV 4 u Z → u = .bool true) (k5 : ∀ (Z : World), Keep w.drew Z → Calls Try.prog 14 #[.pointer (some ⟨gS, 3, none⟩), vv] Z fun e w' => ∃ u, e = .returned u ∧ VV 5 u w' ∧ Keep Z w') (k6 : ∀ (Z : World) (u5 : Value), Keep w.drew Z → VV 5 u5 Z → Calls Try.prog 13 #[u5, .agg #[n0, n1]] Z fun e w' => ∃ u, e = .returned u ∧ VV 6 u w' ∧ Keep Z w') (x6 : ∀ u Z, VV 6 u Z → u = .bool true)
    (hend : ∀ vs w', (∀ k u, vs k = some u → VV k u w') → (∀ k < 7, ∃ u, vs k = some u) → Keep w.drew w' → Q .normal (lay a0 (Lmx (kbT gT gS gc g6 g10 g11 ia n s0 s1 n0 n1 c0 c1 d0 d1 vv) vs)) w') :
    (Code.region 19 kb true).wp Try.prog Q a0 w := by
  refine wp_region_mx (by rfl) (kbT gT gS gc g6 g10 g11 ia n s0 s1 n0 n1 c0 c1 d0 d1 vv) [66, 67, 68, 69, 70, 71, 72, 73, 74, 75, 76, 77, 78, 79, 80, 81, 82, 83, 84, 85, 86, 87, 88, 89, 90, 91, 92, 93, 94, 95, 96, 97, 98, 99, 100, 101, 102, 103, 2] [none, none, none, none, none, none, some 0, none, none, none, none, none, some 1, none, none, none, none, some 2, none, none, none, none, none, none, some 3, none, none, some 4, none, none, none, none, none, none, some 5, none, some 6, none, none] [6, 12, 17, 24, 27, 34, 36] rfl rfl rfl kb_chk (by decide) (by decide) (by
    intro d hd
    rw [hz0]
    have : ∀ y ∈ [66, 67, 68, 69, 70, 71, 72, 73, 74, 75, 76, 77, 78, 79, 80, 81, 82, 83, 84, 85, 86, 87, 88, 89, 90, 91, 92, 93, 94, 95, 96, 97, 98, 99, 100, 101, 102, 103, 2], y < 104 := by decide
    exact this _ hd) (RK w.drew VV) RK.start ?_ ?_
  · intro i d x hT listed vs a w' h
    match i, hT with
    | 0, hT =>
      obtain ⟨rfl, rfl⟩ := Prod.mk.inj (Option.some.inj (show some ((some 66 : Option Nat), (.inl (.slice (some ⟨ia, 0, none⟩) n n) : Value ⊕ Nat)) = some (d, x) from hT))
      exact wpOp_of _ rfl rfl (v_move (.tmp 9) _ rfl (veval_of ((h.ot 9 (by decide)).trans h9)) ⟨rfl, rfl⟩)
    | 1, hT =>
      obtain ⟨rfl, rfl⟩ := Prod.mk.inj (Option.some.inj (show some ((some 67 : Option Nat), (.inl (.int .i64 ((n : Nat) : Int)) : Value ⊕ Nat)) = some (d, x) from hT))
      exact wpOp_of _ rfl rfl (v_len55 66 _ _ _ rfl rfl (h.val 0 66 _ rfl (by decide)) ⟨rfl, rfl⟩)
    | 2, hT =>
      obtain ⟨rfl, rfl⟩ := Prod.mk.inj (Option.some.inj (show some ((some 68 : Option Nat), (.inl (.pointer (some ⟨gS, 0, none⟩)) : Value ⊕ Nat)) = some (d, x) from hT))
      exact wpOp_of _ rfl rfl (v_move (.tmp 4) _ rfl (veval_of ((h.ot 4 (by decide)).trans h4)) ⟨rfl, rfl⟩)
    | 3, hT =>
      obtain ⟨rfl, rfl⟩ := Prod.mk.inj (Option.some.inj (show some ((some 69 : Option Nat), (.inl (.pointer (some ⟨gS, 0, none⟩)) : Value ⊕ Nat)) = some (d, x) from hT))
      exact wpOp_of _ rfl rfl (v_nil (.tmp 68) _ rfl (veval_of (h.val 2 68 _ rfl (by decide))) ⟨rfl, rfl⟩)
    | 4, hT =>
      obtain ⟨rfl, rfl⟩ := Prod.mk.inj (Option.some.inj (show some ((some 70 : Option Nat), (.inl (.pointer (some ⟨gS, 0, none⟩)) : Value ⊕ Nat)) = some (d, x) from hT))
      exact wpOp_of _ rfl rfl (v_g52 (.tmp 69) 0 _ 0 rfl (by decide) (veval_of (h.val 3 69 _ rfl (by decide))) ⟨rfl, rfl⟩)
    | 5, hT =>
      obtain ⟨rfl, rfl⟩ := Prod.mk.inj (Option.some.inj (show some ((some 71 : Option Nat), (.inl (.pointer (some ⟨gc, 0, none⟩)) : Value ⊕ Nat)) = some (d, x) from hT))
      exact wpOp_of _ rfl rfl (v_ld44 (.tmp 70) _ _ _ rfl (veval_of (h.val 4 70 _ rfl (by decide))) (h.r.1.cell m6) ⟨rfl, rfl⟩)
    | 6, hT =>
      obtain ⟨rfl, rfl⟩ := Prod.mk.inj (Option.some.inj (show some ((some 72 : Option Nat), (.inr 0 : Value ⊕ Nat)) = some (d, x) from hT))
      refine wpOp_of _ rfl rfl (v_call 17 _ _ rfl _ Try.func17 (by kernel_rfl) (by kernel_rfl) #[.pointer (some ⟨gc, 0, none⟩)] (by simp [veval_of (h.val 5 71 _ rfl (by decide))]; first | done | rfl | exact ⟨rfl, rfl⟩ | exact ⟨rfl, rfl, rfl⟩ | exact ⟨rfl, rfl, rfl, rfl⟩) ((k0 w' h.r.1).mono ?_))
      rintro e y ⟨u, rfl, hu, kz⟩
      exact ⟨_, rfl, _, rfl, RK.step h.r hVV kz hu⟩
    | 7, hT =>
      obtain ⟨rfl, rfl⟩ := Prod.mk.inj (Option.some.inj (show some ((some 73 : Option Nat), (.inl (.bool true) : Value ⊕ Nat)) = some (d, x) from hT))
      obtain ⟨u0, e0⟩ := h.has 0 6 rfl 39 (by kernel_rfl)
      have hv0 := h.r.2 0 u0 e0
      have q0 := x0 u0 _ hv0
      subst q0
      exact wpOp_of _ rfl rfl (v_eq3 (.tmp 67) (.tmp 72) _ _ true rfl (veval_of (h.val 1 67 _ rfl (by decide))) (veval_of (h.vale 6 72 0 rfl (by decide) e0)) (by simp) ⟨rfl, rfl⟩)
    | 8, hT =>
      obtain ⟨rfl, rfl⟩ := Prod.mk.inj (Option.some.inj (show some ((some 74 : Option Nat), (.inl (.bool true) : Value ⊕ Nat)) = some (d, x) from hT))
      exact wpOp_of _ rfl rfl (v_move (.tmp 73) _ rfl (veval_of (h.val 7 73 _ rfl (by decide))) ⟨rfl, rfl⟩)
    | 9, hT =>
      obtain ⟨rfl, rfl⟩ := Prod.mk.inj (Option.some.inj (show some ((some 75 : Option Nat), (.inl (.agg #[c0, c1]) : Value ⊕ Nat)) = some (d, x) from hT))
      exact wpOp_yes _ rfl 8 _ rfl 74 rfl rfl (h.val 8 74 _ rfl (by decide)) (v_load37 (.tmp 10) _ _ _ _ rfl (veval_of ((h.ot 10 (by decide)).trans h10)) (h.r.1.cell m0) (h.r.1.cell m1) ⟨rfl, rfl⟩)
    | 10, hT =>
      obtain ⟨rfl, rfl⟩ := Prod.mk.inj (Option.some.inj (show some ((some 76 : Option Nat), (.inl (.pointer (some ⟨gT, 10, none⟩)) : Value ⊕ Nat)) = some (d, x) from hT))
      exact wpOp_yes _ rfl 8 _ rfl 74 rfl rfl (h.val 8 74 _ rfl (by decide)) (v_f39 (.tmp 3) 2 _ 10 rfl (by decide) (veval_of ((h.ot 3 (by decide)).trans h3)) ⟨rfl, rfl⟩)
    | 11, hT =>
      obtain ⟨rfl, rfl⟩ := Prod.mk.inj (Option.some.inj (show some ((some 77 : Option Nat), (.inl (.agg #[s0, s1]) : Value ⊕ Nat)) = some (d, x) from hT))
      exact wpOp_yes _ rfl 8 _ rfl 74 rfl rfl (h.val 8 74 _ rfl (by decide)) (v_load37 (.tmp 76) _ _ _ _ rfl (veval_of (h.val 10 76 _ rfl (by decide))) (h.r.1.cell m7) (h.r.1.cell m8) ⟨rfl, rfl⟩)
    | 12, hT =>
      obtain ⟨rfl, rfl⟩ := Prod.mk.inj (Option.some.inj (show some ((some 78 : Option Nat), (.inr 1 : Value ⊕ Nat)) = some (d, x) from hT))
      refine wpOp_yes _ rfl 8 _ rfl 74 rfl rfl (h.val 8 74 _ rfl (by decide)) (v_call 13 _ _ rfl _ Try.func13 (by kernel_rfl) (by kernel_rfl) #[.agg #[c0, c1], .agg #[s0, s1]] (by simp [veval_of (h.val 9 75 _ rfl (by decide)), veval_of (h.val 11 77 _ rfl (by decide))]; first | done | rfl | exact ⟨rfl, rfl⟩ | exact ⟨rfl, rfl, rfl⟩ | exact ⟨rfl, rfl, rfl, rfl⟩) ((k1 w' h.r.1).mono ?_))
      rintro e y ⟨u, rfl, hu, kz⟩
      exact ⟨_, rfl, _, rfl, RK.step h.r hVV kz hu⟩
    | 13, hT =>
      obtain ⟨rfl, rfl⟩ := Prod.mk.inj (Option.some.inj (show some ((some 79 : Option Nat), (.inl (.bool true) : Value ⊕ Nat)) = some (d, x) from hT))
      obtain ⟨u1, e1⟩ := h.has 1 12 rfl 39 (by kernel_rfl)
      have hv1 := h.r.2 1 u1 e1
      have q1 := x1 u1 _ hv1
      subst q1
      exact wpOp_of _ rfl rfl (v_pickT (.tmp 74) (.tmp 78) _ _ rfl (veval_of (h.val 8 74 _ rfl (by decide))) (veval_of (h.vale 12 78 1 rfl (by decide) e1)) ⟨rfl, rfl⟩)
    | 14, hT =>
      obtain ⟨rfl, rfl⟩ := Prod.mk.inj (Option.some.inj (show some ((some 80 : Option Nat), (.inl (.bool true) : Value ⊕ Nat)) = some (d, x) from hT))
      exact wpOp_of _ rfl rfl (v_move (.tmp 79) _ rfl (veval_of (h.val 13 79 _ rfl (by decide))) ⟨rfl, rfl⟩)
    | 15, hT =>
      obtain ⟨rfl, rfl⟩ := Prod.mk.inj (Option.some.inj (show some ((some 81 : Option Nat), (.inl (.agg #[d0, d1]) : Value ⊕ Nat)) = some (d, x) from hT))
      exact wpOp_yes _ rfl 14 _ rfl 80 rfl rfl (h.val 14 80 _ rfl (by decide)) (v_load37 (.tmp 11) _ _ _ _ rfl (veval_of ((h.ot 11 (by decide)).trans h11)) (h.r.1.cell m2) (h.r.1.cell m3) ⟨rfl, rfl⟩)
    | 16, hT =>
      obtain ⟨rfl, rfl⟩ := Prod.mk.inj (Option.some.inj (show some ((some 82 : Option Nat), (.inl (.agg #[n0, n1]) : Value ⊕ Nat)) = some (d, x) from hT))
      exact wpOp_yes _ rfl 14 _ rfl 80 rfl rfl (h.val 14 80 _ rfl (by decide)) (v_load37 (.tmp 6) _ _ _ _ rfl (veval_of ((h.ot 6 (by decide)).trans h6)) (h.r.1.cell m4) (h.r.1.cell m5) ⟨rfl, rfl⟩)
    | 17, hT =>
      obtain ⟨rfl, rfl⟩ := Prod.mk.inj (Option.some.inj (show some ((some 83 : Option Nat), (.inr 2 : Value ⊕ Nat)) = some (d, x) from hT))
      refine wpOp_yes _ rfl 14 _ rfl 80 rfl rfl (h.val 14 80 _ rfl (by decide)) (v_call 13 _ _ rfl _ Try.func13 (by kernel_rfl) (by kernel_rfl) #[.agg #[d0, d1], .agg #[n0, n1]] (by simp [veval_of (h.val 15 81 _ rfl (by decide)), veval_of (h.val 16 82 _ rfl (by decide))]; first | done | rfl | exact ⟨rfl, rfl⟩ | exact ⟨rfl, rfl, rfl⟩ | exact ⟨rfl, rfl, rfl, rfl⟩) ((k2 w' h.r.1).mono ?_))
      rintro e y ⟨u, rfl, hu, kz⟩
      exact ⟨_, rfl, _, rfl, RK.step h.r hVV kz hu⟩
    | 18, hT =>
      obtain ⟨rfl, rfl⟩ := Prod.mk.inj (Option.some.inj (show some ((some 84 : Option Nat), (.inl (.bool true) : Value ⊕ Nat)) = some (d, x) from hT))
      obtain ⟨u2, e2⟩ := h.has 2 17 rfl 39 (by kernel_rfl)
      have hv2 := h.r.2 2 u2 e2
      have q2 := x2 u2 _ hv2
      subst q2
      exact wpOp_of _ rfl rfl (v_pickT (.tmp 80) (.tmp 83) _ _ rfl (veval_of (h.val 14 80 _ rfl (by decide))) (veval_of (h.vale 17 83 2 rfl (by decide) e2)) ⟨rfl, rfl⟩)
    | 19, hT =>
      obtain ⟨rfl, rfl⟩ := Prod.mk.inj (Option.some.inj (show some ((some 85 : Option Nat), (.inl (.bool true) : Value ⊕ Nat)) = some (d, x) from hT))
      exact wpOp_of _ rfl rfl (v_move (.tmp 84) _ rfl (veval_of (h.val 18 84 _ rfl (by decide))) ⟨rfl, rfl⟩)
    | 20, hT =>
      obtain ⟨rfl, rfl⟩ := Prod.mk.inj (Option.some.inj (show some ((some 86 : Option Nat), (.inl (.pointer (some ⟨gS, 0, none⟩)) : Value ⊕ Nat)) = some (d, x) from hT))
      exact wpOp_yes _ rfl 19 _ rfl 85 rfl rfl (h.val 19 85 _ rfl (by decide)) (v_move (.tmp 4) _ rfl (veval_of ((h.ot 4 (by decide)).trans h4)) ⟨rfl, rfl⟩)
    | 21, hT =>
      obtain ⟨rfl, rfl⟩ := Prod.mk.inj (Option.some.inj (show some ((some 87 : Option Nat), (.inl (.pointer (some ⟨gS, 0, none⟩)) : Value ⊕ Nat)) = some (d, x) from hT))
      exact wpOp_yes _ rfl 19 _ rfl 85 rfl rfl (h.val 19 85 _ rfl (by decide)) (v_nil (.tmp 86) _ rfl (veval_of (h.val 20 86 _ rfl (by decide))) ⟨rfl, rfl⟩)
    | 22, hT =>
      obtain ⟨rfl, rfl⟩ := Prod.mk.inj (Option.some.inj (show some ((some 88 : Option Nat), (.inl (.pointer (some ⟨gS, 1, none⟩)) : Value ⊕ Nat)) = some (d, x) from hT))
      exact wpOp_yes _ rfl 19 _ rfl 85 rfl rfl (h.val 19 85 _ rfl (by decide)) (v_g52 (.tmp 87) 1 _ 1 rfl (by decide) (veval_of (h.val 21 87 _ rfl (by decide))) ⟨rfl, rfl⟩)
    | 23, hT =>
      obtain ⟨rfl, rfl⟩ := Prod.mk.inj (Option.some.inj (show some ((some 89 : Option Nat), (.inl (vv) : Value ⊕ Nat)) = some (d, x) from hT))
      exact wpOp_yes _ rfl 19 _ rfl 85 rfl rfl (h.val 19 85 _ rfl (by decide)) (v_move (.tmp 12) _ rfl (veval_of ((h.ot 12 (by decide)).trans h12)) ⟨rfl, rfl⟩)
    | 24, hT =>
      obtain ⟨rfl, rfl⟩ := Prod.mk.inj (Option.some.inj (show some ((some 90 : Option Nat), (.inr 3 : Value ⊕ Nat)) = some (d, x) from hT))
      refine wpOp_yes _ rfl 19 _ rfl 85 rfl rfl (h.val 19 85 _ rfl (by decide)) (v_call 14 _ _ rfl _ Try.func14 (by kernel_rfl) (by kernel_rfl) #[.pointer (some ⟨gS, 1, none⟩), vv] (by simp [veval_of (h.val 22 88 _ rfl (by decide)), veval_of (h.val 23 89 _ rfl (by decide))]; first | done | rfl | exact ⟨rfl, rfl⟩ | exact ⟨rfl, rfl, rfl⟩ | exact ⟨rfl, rfl, rfl, rfl⟩) ((k3 w' h.r.1).mono ?_))
      rintro e y ⟨u, rfl, hu, kz⟩
      exact ⟨_, rfl, _, rfl, RK.step h.r hVV kz hu⟩
    | 25, hT =>
      obtain ⟨rfl, rfl⟩ := Prod.mk.inj (Option.some.inj (show some ((some 91 : Option Nat), (.inl (.pointer (some ⟨gT, 10, none⟩)) : Value ⊕ Nat)) = some (d, x) from hT))
      exact wpOp_yes _ rfl 19 _ rfl 85 rfl rfl (h.val 19 85 _ rfl (by decide)) (v_f39 (.tmp 3) 2 _ 10 rfl (by decide) (veval_of ((h.ot 3 (by decide)).trans h3)) ⟨rfl, rfl⟩)
    | 26, hT =>
      obtain ⟨rfl, rfl⟩ := Prod.mk.inj (Option.some.inj (show some ((some 92 : Option Nat), (.inl (.agg #[s0, s1]) : Value ⊕ Nat)) = some (d, x) from hT))
      exact wpOp_yes _ rfl 19 _ rfl 85 rfl rfl (h.val 19 85 _ rfl (by decide)) (v_load37 (.tmp 91) _ _ _ _ rfl (veval_of (h.val 25 91 _ rfl (by decide))) (h.r.1.cell m7) (h.r.1.cell m8) ⟨rfl, rfl⟩)
    | 27, hT =>
      obtain ⟨rfl, rfl⟩ := Prod.mk.inj (Option.some.inj (show some ((some 93 : Option Nat), (.inr 4 : Value ⊕ Nat)) = some (d, x) from hT))
      obtain ⟨u3, e3⟩ := h.has 3 24 rfl 39 (by kernel_rfl)
      have hv3 := h.r.2 3 u3 e3
      refine wpOp_yes _ rfl 19 _ rfl 85 rfl rfl (h.val 19 85 _ rfl (by decide)) (v_call 13 _ _ rfl _ Try.func13 (by kernel_rfl) (by kernel_rfl) #[u3, .agg #[s0, s1]] (by simp [veval_of (h.vale 24 90 3 rfl (by decide) e3), veval_of (h.val 26 92 _ rfl (by decide))]; first | done | rfl | exact ⟨rfl, rfl⟩ | exact ⟨rfl, rfl, rfl⟩ | exact ⟨rfl, rfl, rfl, rfl⟩) ((k4 w' u3 h.r.1 hv3).mono ?_))
      rintro e y ⟨u, rfl, hu, kz⟩
      exact ⟨_, rfl, _, rfl, RK.step h.r hVV kz hu⟩
    | 28, hT =>
      obtain ⟨rfl, rfl⟩ := Prod.mk.inj (Option.some.inj (show some ((some 94 : Option Nat), (.inl (.bool true) : Value ⊕ Nat)) = some (d, x) from hT))
      obtain ⟨u4, e4⟩ := h.has 4 27 rfl 39 (by kernel_rfl)
      have hv4 := h.r.2 4 u4 e4
      have q4 := x4 u4 _ hv4
      subst q4
      exact wpOp_of _ rfl rfl (v_pickT (.tmp 85) (.tmp 93) _ _ rfl (veval_of (h.val 19 85 _ rfl (by decide))) (veval_of (h.vale 27 93 4 rfl (by decide) e4)) ⟨rfl, rfl⟩)
    | 29, hT =>
      obtain ⟨rfl, rfl⟩ := Prod.mk.inj (Option.some.inj (show some ((some 95 : Option Nat), (.inl (.bool true) : Value ⊕ Nat)) = some (d, x) from hT))
      exact wpOp_of _ rfl rfl (v_move (.tmp 94) _ rfl (veval_of (h.val 28 94 _ rfl (by decide))) ⟨rfl, rfl⟩)
    | 30, hT =>
      obtain ⟨rfl, rfl⟩ := Prod.mk.inj (Option.some.inj (show some ((some 96 : Option Nat), (.inl (.pointer (some ⟨gS, 0, none⟩)) : Value ⊕ Nat)) = some (d, x) from hT))
      exact wpOp_yes _ rfl 29 _ rfl 95 rfl rfl (h.val 29 95 _ rfl (by decide)) (v_move (.tmp 4) _ rfl (veval_of ((h.ot 4 (by decide)).trans h4)) ⟨rfl, rfl⟩)
    | 31, hT =>
      obtain ⟨rfl, rfl⟩ := Prod.mk.inj (Option.some.inj (show some ((some 97 : Option Nat), (.inl (.pointer (some ⟨gS, 0, none⟩)) : Value ⊕ Nat)) = some (d, x) from hT))
      exact wpOp_yes _ rfl 29 _ rfl 95 rfl rfl (h.val 29 95 _ rfl (by decide)) (v_nil (.tmp 96) _ rfl (veval_of (h.val 30 96 _ rfl (by decide))) ⟨rfl, rfl⟩)
    | 32, hT =>
      obtain ⟨rfl, rfl⟩ := Prod.mk.inj (Option.some.inj (show some ((some 98 : Option Nat), (.inl (.pointer (some ⟨gS, 3, none⟩)) : Value ⊕ Nat)) = some (d, x) from hT))
      exact wpOp_yes _ rfl 29 _ rfl 95 rfl rfl (h.val 29 95 _ rfl (by decide)) (v_g52 (.tmp 97) 2 _ 3 rfl (by decide) (veval_of (h.val 31 97 _ rfl (by decide))) ⟨rfl, rfl⟩)
    | 33, hT =>
      obtain ⟨rfl, rfl⟩ := Prod.mk.inj (Option.some.inj (show some ((some 99 : Option Nat), (.inl (vv) : Value ⊕ Nat)) = some (d, x) from hT))
      exact wpOp_yes _ rfl 29 _ rfl 95 rfl rfl (h.val 29 95 _ rfl (by decide)) (v_move (.tmp 12) _ rfl (veval_of ((h.ot 12 (by decide)).trans h12)) ⟨rfl, rfl⟩)
    | 34, hT =>
      obtain ⟨rfl, rfl⟩ := Prod.mk.inj (Option.some.inj (show some ((some 100 : Option Nat), (.inr 5 : Value ⊕ Nat)) = some (d, x) from hT))
      refine wpOp_yes _ rfl 29 _ rfl 95 rfl rfl (h.val 29 95 _ rfl (by decide)) (v_call 14 _ _ rfl _ Try.func14 (by kernel_rfl) (by kernel_rfl) #[.pointer (some ⟨gS, 3, none⟩), vv] (by simp [veval_of (h.val 32 98 _ rfl (by decide)), veval_of (h.val 33 99 _ rfl (by decide))]; first | done | rfl | exact ⟨rfl, rfl⟩ | exact ⟨rfl, rfl, rfl⟩ | exact ⟨rfl, rfl, rfl, rfl⟩) ((k5 w' h.r.1).mono ?_))
      rintro e y ⟨u, rfl, hu, kz⟩
      exact ⟨_, rfl, _, rfl, RK.step h.r hVV kz hu⟩
    | 35, hT =>
      obtain ⟨rfl, rfl⟩ := Prod.mk.inj (Option.some.inj (show some ((some 101 : Option Nat), (.inl (.agg #[n0, n1]) : Value ⊕ Nat)) = some (d, x) from hT))
      exact wpOp_yes _ rfl 29 _ rfl 95 rfl rfl (h.val 29 95 _ rfl (by decide)) (v_load37 (.tmp 6) _ _ _ _ rfl (veval_of ((h.ot 6 (by decide)).trans h6)) (h.r.1.cell m4) (h.r.1.cell m5) ⟨rfl, rfl⟩)
    | 36, hT =>
      obtain ⟨rfl, rfl⟩ := Prod.mk.inj (Option.some.inj (show some ((some 102 : Option Nat), (.inr 6 : Value ⊕ Nat)) = some (d, x) from hT))
      obtain ⟨u5, e5⟩ := h.has 5 34 rfl 39 (by kernel_rfl)
      have hv5 := h.r.2 5 u5 e5
      refine wpOp_yes _ rfl 29 _ rfl 95 rfl rfl (h.val 29 95 _ rfl (by decide)) (v_call 13 _ _ rfl _ Try.func13 (by kernel_rfl) (by kernel_rfl) #[u5, .agg #[n0, n1]] (by simp [veval_of (h.vale 34 100 5 rfl (by decide) e5), veval_of (h.val 35 101 _ rfl (by decide))]; first | done | rfl | exact ⟨rfl, rfl⟩ | exact ⟨rfl, rfl, rfl⟩ | exact ⟨rfl, rfl, rfl, rfl⟩) ((k6 w' u5 h.r.1 hv5).mono ?_))
      rintro e y ⟨u, rfl, hu, kz⟩
      exact ⟨_, rfl, _, rfl, RK.step h.r hVV kz hu⟩
    | 37, hT =>
      obtain ⟨rfl, rfl⟩ := Prod.mk.inj (Option.some.inj (show some ((some 103 : Option Nat), (.inl (.bool true) : Value ⊕ Nat)) = some (d, x) from hT))
      obtain ⟨u6, e6⟩ := h.has 6 36 rfl 39 (by kernel_rfl)
      have hv6 := h.r.2 6 u6 e6
      have q6 := x6 u6 _ hv6
      subst q6
      exact wpOp_of _ rfl rfl (v_pickT (.tmp 95) (.tmp 102) _ _ rfl (veval_of (h.val 29 95 _ rfl (by decide))) (veval_of (h.vale 36 102 6 rfl (by decide) e6)) ⟨rfl, rfl⟩)
    | 38, hT =>
      obtain ⟨rfl, rfl⟩ := Prod.mk.inj (Option.some.inj (show some ((some 2 : Option Nat), (.inl (.bool true) : Value ⊕ Nat)) = some (d, x) from hT))
      exact wpOp_of _ rfl rfl (v_asg (.tmp 103) _ rfl (veval_of (h.val 37 103 _ rfl (by decide))) ⟨rfl, rfl⟩)
    | i + 39, hT => simp [kbT] at hT
  · intro vs w' hv hR
    exact hend vs w' hR.2 (fun k hk => hv k (by simpa using hk)) hR.1
end Go.Proofs.Qxb6500772a
