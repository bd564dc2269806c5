/- blastlaw: the last region of RealDoesWhatModelDoes. -/
import Derived.Test.Qxb6500772aKa
namespace Go.Proofs.Qxb6500772a
open Go Go.RowKit Go.Qm
set_option linter.unusedVariables false
set_option linter.unusedSimpArgs false
def rf : Array Oper := #[{ dst := some 104, op := Go.Op.move (Go.Operand.tmp 4), type := 41, pos := "laws.go:104", after := #[], guard := none }, { dst := some 105, op := Go.Op.fieldAddr 39 (Go.Operand.tmp 3) 0, type := 0, pos := "laws.go:104", after := #[], guard := none }, { dst := some 106, op := Go.Op.load 33 (Go.Operand.tmp 105), type := 33, pos := "laws.go:104", after := #[{ on := 1, ground := Go.Ground.data }], guard := none }, { dst := some 107, op := Go.Op.fieldAddr 39 (Go.Operand.tmp 3) 2, type := 0, pos := "laws.go:104", after := #[], guard := none }, { dst := some 108, op := Go.Op.load 37 (Go.Operand.tmp 107), type := 37, pos := "laws.go:104", after := #[{ on := 3, ground := Go.Ground.data }], guard := none }, { dst := some 109, op := Go.Op.fieldAddr 39 (Go.Operand.tmp 3) 3, type := 0, pos := "laws.go:104", after := #[], guard := none }, { dst := some 110, op := Go.Op.load 37 (Go.Operand.tmp 109), type := 37, pos := "laws.go:104", after := #[{ on := 5, ground := Go.Ground.data }], guard := none }, { dst := some 111, op := Go.Op.call { callee := Go.Callee.value (Go.Operand.func 19), args := #[Go.Operand.tmp 104, Go.Operand.tmp 106, Go.Operand.tmp 108, Go.Operand.tmp 110], argTypes := #[41, 33, 37, 37] }, type := 4, pos := "laws.go:104", after := #[{ on := 0, ground := Go.Ground.data }, { on := 2, ground := Go.Ground.data }, { on := 4, ground := Go.Ground.data }, { on := 6, ground := Go.Ground.data }], guard := none }, { dst := some 112, op := Go.Op.move (Go.Operand.tmp 111), type := 4, pos := "laws.go:104", after := #[{ on := 7, ground := Go.Ground.data }, { on := 7, ground := Go.Ground.chain }], guard := none }, { dst := some 113, op := Go.Op.move (Go.Operand.tmp 4), type := 41, pos := "laws.go:104", after := #[{ on := 8, ground := Go.Ground.guard }], guard := some (8, true) }, { dst := some 114, op := Go.Op.fieldAddr 39 (Go.Operand.tmp 3) 0, type := 0, pos := "laws.go:104", after := #[{ on := 8, ground := Go.Ground.guard }], guard := some (8, true) }, { dst := some 115, op := Go.Op.load 33 (Go.Operand.tmp 114), type := 33, pos := "laws.go:104", after := #[{ on := 10, ground := Go.Ground.data }, { on := 8, ground := Go.Ground.guard }], guard := some (8, true) }, { dst := some 116, op := Go.Op.fieldAddr 39 (Go.Operand.tmp 3) 2, type := 0, pos := "laws.go:104", after := #[{ on := 8, ground := Go.Ground.guard }], guard := some (8, true) }, { dst := some 117, op := Go.Op.load 37 (Go.Operand.tmp 116), type := 37, pos := "laws.go:104", after := #[{ on := 12, ground := Go.Ground.data }, { on := 8, ground := Go.Ground.guard }], guard := some (8, true) }, { dst := some 118, op := Go.Op.fieldAddr 39 (Go.Operand.tmp 3) 0, type := 0, pos := "laws.go:104", after := #[{ on := 8, ground := Go.Ground.guard }], guard := some (8, true) }, { dst := some 119, op := Go.Op.load 33 (Go.Operand.tmp 118), type := 33, pos := "laws.go:104", after := #[{ on := 14, ground := Go.Ground.data }, { on := 8, ground := Go.Ground.guard }], guard := some (8, true) }, { dst := some 120, op := Go.Op.fieldAddr 39 (Go.Operand.tmp 3) 2, type := 0, pos := "laws.go:104", after := #[{ on := 8, ground := Go.Ground.guard }], guard := some (8, true) }, { dst := some 121, op := Go.Op.load 37 (Go.Operand.tmp 120), type := 37, pos := "laws.go:104", after := #[{ on := 16, ground := Go.Ground.data }, { on := 8, ground := Go.Ground.guard }], guard := some (8, true) }, { dst := some 122, op := Go.Op.call { callee := Go.Callee.value (Go.Operand.func 20), args := #[Go.Operand.tmp 119, Go.Operand.tmp 121], argTypes := #[33, 37] }, type := 37, pos := "laws.go:105", after := #[{ on := 15, ground := Go.Ground.data }, { on := 17, ground := Go.Ground.data }, { on := 8, ground := Go.Ground.chain }, { on := 8, ground := Go.Ground.guard }], guard := some (8, true) }, { dst := some 123, op := Go.Op.call { callee := Go.Callee.value (Go.Operand.func 19), args := #[Go.Operand.tmp 113, Go.Operand.tmp 115, Go.Operand.tmp 117, Go.Operand.tmp 122], argTypes := #[41, 33, 37, 37] }, type := 4, pos := "laws.go:105", after := #[{ on := 9, ground := Go.Ground.data }, { on := 11, ground := Go.Ground.data }, { on := 13, ground := Go.Ground.data }, { on := 18, ground := Go.Ground.data }, { on := 18, ground := Go.Ground.chain }, { on := 8, ground := Go.Ground.guard }], guard := some (8, true) }, { dst := some 124, op := Go.Op.pick (Go.Operand.tmp 112) (Go.Operand.tmp 123) (Go.Operand.const (Go.Value.bool false)), type := 4, pos := "laws.go:104", after := #[{ on := 8, ground := Go.Ground.data }, { on := 19, ground := Go.Ground.data }], guard := none }, { dst := some 125, op := Go.Op.move (Go.Operand.tmp 124), type := 4, pos := "laws.go:104", after := #[{ on := 20, ground := Go.Ground.data }, { on := 19, ground := Go.Ground.chain }], guard := none }, { dst := some 126, op := Go.Op.move (Go.Operand.tmp 4), type := 41, pos := "laws.go:104", after := #[{ on := 21, ground := Go.Ground.guard }], guard := some (21, true) }, { dst := some 127, op := Go.Op.fieldAddr 39 (Go.Operand.tmp 3) 0, type := 0, pos := "laws.go:104", after := #[{ on := 21, ground := Go.Ground.guard }], guard := some (21, true) }, { dst := some 128, op := Go.Op.load 33 (Go.Operand.tmp 127), type := 33, pos := "laws.go:104", after := #[{ on := 23, ground := Go.Ground.data }, { on := 21, ground := Go.Ground.guard }], guard := some (21, true) }, { dst := some 129, op := Go.Op.load 37 (Go.Operand.tmp 8), type := 37, pos := "laws.go:104", after := #[{ on := 21, ground := Go.Ground.guard }], guard := some (21, true) }, { dst := some 130, op := Go.Op.fieldAddr 39 (Go.Operand.tmp 3) 3, type := 0, pos := "laws.go:104", after := #[{ on := 21, ground := Go.Ground.guard }], guard := some (21, true) }, { dst := some 131, op := Go.Op.load 37 (Go.Operand.tmp 130), type := 37, pos := "laws.go:104", after := #[{ on := 26, ground := Go.Ground.data }, { on := 21, ground := Go.Ground.guard }], guard := some (21, true) }, { dst := some 132, op := Go.Op.call { callee := Go.Callee.value (Go.Operand.func 19), args := #[Go.Operand.tmp 126, Go.Operand.tmp 128, Go.Operand.tmp 129, Go.Operand.tmp 131], argTypes := #[41, 33, 37, 37] }, type := 4, pos := "laws.go:106", after := #[{ on := 22, ground := Go.Ground.data }, { on := 24, ground := Go.Ground.data }, { on := 25, ground := Go.Ground.data }, { on := 27, ground := Go.Ground.data }, { on := 21, ground := Go.Ground.chain }, { on := 21, ground := Go.Ground.guard }], guard := some (21, true) }, { dst := some 133, op := Go.Op.pick (Go.Operand.tmp 125) (Go.Operand.tmp 132) (Go.Operand.const (Go.Value.bool false)), type := 4, pos := "laws.go:104", after := #[{ on := 21, ground := Go.Ground.data }, { on := 28, ground := Go.Ground.data }], guard := none }, { dst := some 134, op := Go.Op.move (Go.Operand.tmp 133), type := 4, pos := "laws.go:104", after := #[{ on := 29, ground := Go.Ground.data }, { on := 28, ground := Go.Ground.chain }], guard := none }, { dst := some 135, op := Go.Op.move (Go.Operand.tmp 4), type := 41, pos := "laws.go:104", after := #[{ on := 30, ground := Go.Ground.guard }], guard := some (30, true) }, { dst := some 136, op := Go.Op.fieldAddr 39 (Go.Operand.tmp 3) 0, type := 0, pos := "laws.go:104", after := #[{ on := 30, ground := Go.Ground.guard }], guard := some (30, true) }, { dst := some 137, op := Go.Op.load 33 (Go.Operand.tmp 136), type := 33, pos := "laws.go:104", after := #[{ on := 32, ground := Go.Ground.data }, { on := 30, ground := Go.Ground.guard }], guard := some (30, true) }, { dst := some 138, op := Go.Op.load 37 (Go.Operand.tmp 8), type := 37, pos := "laws.go:104", after := #[{ on := 30, ground := Go.Ground.guard }], guard := some (30, true) }, { dst := some 139, op := Go.Op.fieldAddr 39 (Go.Operand.tmp 3) 0, type := 0, pos := "laws.go:104", after := #[{ on := 30, ground := Go.Ground.guard }], guard := some (30, true) }, { dst := some 140, op := Go.Op.load 33 (Go.Operand.tmp 139), type := 33, pos := "laws.go:104", after := #[{ on := 35, ground := Go.Ground.data }, { on := 30, ground := Go.Ground.guard }], guard := some (30, true) }, { dst := some 141, op := Go.Op.load 37 (Go.Operand.tmp 8), type := 37, pos := "laws.go:104", after := #[{ on := 30, ground := Go.Ground.guard }], guard := some (30, true) }, { dst := some 142, op := Go.Op.call { callee := Go.Callee.value (Go.Operand.func 20), args := #[Go.Operand.tmp 140, Go.Operand.tmp 141], argTypes := #[33, 37] }, type := 37, pos := "laws.go:107", after := #[{ on := 36, ground := Go.Ground.data }, { on := 37, ground := Go.Ground.data }, { on := 30, ground := Go.Ground.chain }, { on := 30, ground := Go.Ground.guard }], guard := some (30, true) }, { dst := some 143, op := Go.Op.call { callee := Go.Callee.value (Go.Operand.func 19), args := #[Go.Operand.tmp 135, Go.Operand.tmp 137, Go.Operand.tmp 138, Go.Operand.tmp 142], argTypes := #[41, 33, 37, 37] }, type := 4, pos := "laws.go:107", after := #[{ on := 31, ground := Go.Ground.data }, { on := 33, ground := Go.Ground.data }, { on := 34, ground := Go.Ground.data }, { on := 38, ground := Go.Ground.data }, { on := 38, ground := Go.Ground.chain }, { on := 30, ground := Go.Ground.guard }], guard := some (30, true) }, { dst := some 144, op := Go.Op.pick (Go.Operand.tmp 134) (Go.Operand.tmp 143) (Go.Operand.const (Go.Value.bool false)), type := 4, pos := "laws.go:104", after := #[{ on := 30, ground := Go.Ground.data }, { on := 39, ground := Go.Ground.data }], guard := none }, { dst := some 2, op := Go.Op.assign (Go.Operand.tmp 144), type := 4, pos := "laws.go:104", after := #[{ on := 40, ground := Go.Ground.data }, { on := 39, ground := Go.Ground.chain }, { on := 0, ground := Go.Ground.phase }, { on := 1, ground := Go.Ground.phase }, { on := 2, ground := Go.Ground.phase }, { on := 3, ground := Go.Ground.phase }, { on := 4, ground := Go.Ground.phase }, { on := 5, ground := Go.Ground.phase }, { on := 6, ground := Go.Ground.phase }, { on := 7, ground := Go.Ground.phase }, { on := 8, ground := Go.Ground.phase }, { on := 9, ground := Go.Ground.phase }, { on := 10, ground := Go.Ground.phase }, { on := 11, ground := Go.Ground.phase }, { on := 12, ground := Go.Ground.phase }, { on := 13, ground := Go.Ground.phase }, { on := 14, ground := Go.Ground.phase }, { on := 15, ground := Go.Ground.phase }, { on := 16, ground := Go.Ground.phase }, { on := 17, ground := Go.Ground.phase }, { on := 18, ground := Go.Ground.phase }, { on := 19, ground := Go.Ground.phase }, { on := 20, ground := Go.Ground.phase }, { on := 21, ground := Go.Ground.phase }, { on := 22, ground := Go.Ground.phase }, { on := 23, ground := Go.Ground.phase }, { on := 24, ground := Go.Ground.phase }, { on := 25, ground := Go.Ground.phase }, { on := 26, ground := Go.Ground.phase }, { on := 27, ground := Go.Ground.phase }, { on := 28, ground := Go.Ground.phase }, { on := 29, ground := Go.Ground.phase }, { on := 30, ground := Go.Ground.phase }, { on := 31, ground := Go.Ground.phase }, { on := 32, ground := Go.Ground.phase }, { on := 33, ground := Go.Ground.phase }, { on := 34, ground := Go.Ground.phase }, { on := 35, ground := Go.Ground.phase }, { on := 36, ground := Go.Ground.phase }, { on := 37, ground := Go.Ground.phase }, { on := 38, ground := Go.Ground.phase }, { on := 39, ground := Go.Ground.phase }, { on := 40, ground := Go.Ground.phase }], guard := none }]
def rfT (gT gS g8 : Nat) (p0 p1 p2 p3 p4 p5 p6 p7 p8 s0 s1 t0 t1 f0 f1 : Value) : List (Option Nat × (Value ⊕ Nat)) := [(some 104, .inl (.pointer (some ⟨gS, 0, none⟩))), (some 105, .inl (.pointer (some ⟨gT, 0, none⟩))), (some 106, .inl (.agg #[p0, p1, p2, p3, p4, p5, p6, p7, p8])), (some 107, .inl (.pointer (some ⟨gT, 10, none⟩))), (some 108, .inl (.agg #[s0, s1])), (some 109, .inl (.pointer (some ⟨gT, 12, none⟩))), (some 110, .inl (.agg #[t0, t1])), (some 111, .inr 0), (some 112, .inl (.bool true)), (some 113, .inl (.pointer (some ⟨gS, 0, none⟩))), (some 114, .inl (.pointer (some ⟨gT, 0, none⟩))), (some 115, .inl (.agg #[p0, p1, p2, p3, p4, p5, p6, p7, p8])), (some 116, .inl (.pointer (some ⟨gT, 10, none⟩))), (some 117, .inl (.agg #[s0, s1])), (some 118, .inl (.pointer (some ⟨gT, 0, none⟩))), (some 119, .inl (.agg #[p0, p1, p2, p3, p4, p5, p6, p7, p8])), (some 120, .inl (.pointer (some ⟨gT, 10, none⟩))), (some 121, .inl (.agg #[s0, s1])), (some 122, .inr 1), (some 123, .inr 2), (some 124, .inl (.bool true)), (some 125, .inl (.bool true)), (some 126, .inl (.pointer (some ⟨gS, 0, none⟩))), (some 127, .inl (.pointer (some ⟨gT, 0, none⟩))), (some 128, .inl (.agg #[p0, p1, p2, p3, p4, p5, p6, p7, p8])), (some 129, .inl (.agg #[f0, f1])), (some 130, .inl (.pointer (some ⟨gT, 12, none⟩))), (some 131, .inl (.agg #[t0, t1])), (some 132, .inr 3), (some 133, .inl (.bool true)), (some 134, .inl (.bool true)), (some 135, .inl (.pointer (some ⟨gS, 0, none⟩))), (some 136, .inl (.pointer (some ⟨gT, 0, none⟩))), (some 137, .inl (.agg #[p0, p1, p2, p3, p4, p5, p6, p7, p8])), (some 138, .inl (.agg #[f0, f1])), (some 139, .inl (.pointer (some ⟨gT, 0, none⟩))), (some 140, .inl (.agg #[p0, p1, p2, p3, p4, p5, p6, p7, p8])), (some 141, .inl (.agg #[f0, f1])), (some 142, .inr 4), (some 143, .inr 5), (some 144, .inl (.bool true)), (some 2, .inl (.bool true))]
theorem rf_chk : chk rf rf.size = true := by kernel_rfl
set_option maxRecDepth 4000 in
set_option maxHeartbeats 4000000 in
theorem rf_c {Q : Exit → Act → World → Prop} {a0 : Act} {w : World} (gT gS g8 : Nat) (p0 p1 p2 p3 p4 p5 p6 p7 p8 s0 s1 t0 t1 f0 f1 : Value) (hz0 : a0.tmps.size = 145) (h3 : a0.tmps[3]? = some (.pointer (some ⟨gT, 0, none⟩))) (h4 : a0.tmps[4]? = some (.pointer (some ⟨gS, 0, none⟩))) (h8 : a0.tmps[8]? = some (.pointer (some ⟨g8, 0, none⟩))) (m0 : w.drew.cell? ⟨g8, 0, none⟩ = some (f0)) (m1 : w.drew.cell? ⟨g8, 1, none⟩ = some (f1)) (m2 : w.drew.cell? ⟨gT, 0, none⟩ = some (p0)) (m3 : w.drew.cell? ⟨gT, 1, none⟩ = some (p1)) (m4 : w.drew.cell? ⟨gT, 2, none⟩ = some (p2)) (m5 : w.drew.cell? ⟨gT, 3, none⟩ = some (p3)) (m6 : w.drew.cell? ⟨gT, 4, none⟩ = some (p4)) (m7 : w.drew.cell? ⟨gT, 5, none⟩ = some (p5)) (m8 : w.drew.cell? ⟨gT, 6, none⟩ = some (p6)) (m9 : w.drew.cell? ⟨gT, 7, none⟩ = some (p7)) (m10 : w.drew.cell? ⟨gT, 8, none⟩ = some (p8)) (m11 : w.drew.cell? ⟨gT, 10, none⟩ = some (s0)) (m12 : w.drew.cell? ⟨gT, 11, none⟩ = some (s1)) (m13 : w.drew.cell? ⟨gT, 12, none⟩ = some (t0)) (m14 : w.drew.cell? ⟨gT, 13, none⟩ = some (t1))  (VV : Nat → Value → World → Prop) (hVV : ∀ k u Z Z', Keep Z Z' → VV k u Z → VV k u Z') (k0 : ∀ (Z : World), Keep w.drew Z → Calls Try.prog 19 #[.pointer (some ⟨gS, 0, none⟩), .agg #[p0, p1, p2, p3, p4, p5, p6, p7, p8], .agg #[s0, s1], .agg #[t0, t1]] Z fun e w' => ∃ u, e = .returned u ∧ VV 0 u w' ∧ Keep Z w') (x0 : ∀ u Z, VV 0 u Z → u = .bool true) (k1 : ∀ (Z : World), Keep w.drew Z → Calls Try.prog 20 #[.agg #[p0, p1, p2, p3, p4, p5, p6, p7, p8], .agg #[s0, s1]] Z fun e w' => ∃ u, e = .returned u ∧ VV 1 u w' ∧ Keep Z w') (k2 : ∀ (Z : World) (u1 : Value), Keep w.drew Z → VV 1 u1 Z → Calls Try.prog 19 #[.pointer (some ⟨gS, 0, none⟩), .agg #[p0, p1, p2, p3, p4, p5, p6, p7, p8], .agg #[s0, s1], u1] Z fun e w' => ∃ u, e = .returned u ∧ VV 2 u w' ∧ Keep Z w') (x2 : ∀ u Z, VV 2 u Z → u = .bool true) (k3 : ∀ (Z : World), Keep w.drew Z → Calls Try.prog 19 #[.pointer (some ⟨gS, 0, none⟩), .agg #[p0, p1, p2, p3, p4, p5, p6, p7, p8], .agg #[f0, f1], .agg #[t0, t1]] Z fun e w' => ∃ u, e = .returned u ∧ VV 3 u w' ∧ Keep Z w') (x3 : ∀ u Z, VV 3 u Z → u = .bool true) (k4 : ∀ (Z : World), Keep w.drew Z → Calls Try.prog 20 #[.agg #[p0, p1, p2, p3, p4, p5, p6, p7, p8], .agg #[f0, f1]] Z fun e w' => ∃ u, e = .returned u ∧ VV 4 u w' ∧ Keep Z w') (k5 : ∀ (Z : World) (u4 : Value), Keep w.drew Z → VV 4 u4 Z → Calls Try.prog 19 #[.pointer (some ⟨gS, 0, none⟩), .agg #[p0, p1, p2, p3, p4, p5, p6, p7, p8], .agg #[f0, f1], u4] Z fun e w' => ∃ u, e = .returned u ∧ VV 5 u w' ∧ Keep Z w') (x5 : ∀ u Z, VV 5 u Z → u = .bool true)
    (hend : ∀ vs w', (∀ k u, vs k = some u → VV k u w') → (∀ k < 6, ∃ u, vs k = some u) → Keep w.drew w' → Q .normal (lay a0 (Lmx (rfT gT gS g8 p0 p1 p2 p3 p4 p5 p6 p7 p8 s0 s1 t0 t1 f0 f1) vs)) w') :
    (Code.region 26 rf true).wp Try.prog Q a0 w := by
  refine wp_region_mx (by rfl) (rfT gT gS g8 p0 p1 p2 p3 p4 p5 p6 p7 p8 s0 s1 t0 t1 f0 f1) [104, 105, 106, 107, 108, 109, 110, 111, 112, 113, 114, 115, 116, 117, 118, 119, 120, 121, 122, 123, 124, 125, 126, 127, 128, 129, 130, 131, 132, 133, 134, 135, 136, 137, 138, 139, 140, 141, 142, 143, 144, 2] [none, none, none, none, none, none, none, some 0, none, none, none, none, none, none, none, none, none, none, some 1, some 2, none, none, none, none, none, none, none, none, some 3, none, none, none, none, none, none, none, none, none, some 4, some 5, none, none] [7, 18, 19, 28, 38, 39] rfl rfl rfl rf_chk (by decide) (by decide) (by
    intro d hd
    rw [hz0]
    have : ∀ y ∈ [104, 105, 106, 107, 108, 109, 110, 111, 112, 113, 114, 115, 116, 117, 118, 119, 120, 121, 122, 123, 124, 125, 126, 127, 128, 129, 130, 131, 132, 133, 134, 135, 136, 137, 138, 139, 140, 141, 142, 143, 144, 2], y < 145 := by decide
    exact this _ hd) (RK w.drew VV) RK.start ?_ ?_
  · intro i d x hT listed vs a w' h
    match i, hT with
    | 0, hT =>
      obtain ⟨rfl, rfl⟩ := Prod.mk.inj (Option.some.inj (show some ((some 104 : Option Nat), (.inl (.pointer (some ⟨gS, 0, none⟩)) : Value ⊕ Nat)) = some (d, x) from hT))
      exact wpOp_of _ rfl rfl (v_move (.tmp 4) _ rfl (veval_of ((h.ot 4 (by decide)).trans h4)) ⟨rfl, rfl⟩)
    | 1, hT =>
      obtain ⟨rfl, rfl⟩ := Prod.mk.inj (Option.some.inj (show some ((some 105 : Option Nat), (.inl (.pointer (some ⟨gT, 0, none⟩)) : Value ⊕ Nat)) = some (d, x) from hT))
      exact wpOp_of _ rfl rfl (v_f39 (.tmp 3) 0 _ 0 rfl (by decide) (veval_of ((h.ot 3 (by decide)).trans h3)) ⟨rfl, rfl⟩)
    | 2, hT =>
      obtain ⟨rfl, rfl⟩ := Prod.mk.inj (Option.some.inj (show some ((some 106 : Option Nat), (.inl (.agg #[p0, p1, p2, p3, p4, p5, p6, p7, p8]) : Value ⊕ Nat)) = some (d, x) from hT))
      exact wpOp_of _ rfl rfl (v_load33 (.tmp 105) _ _ _ _ _ _ _ _ _ _ rfl (veval_of (h.val 1 105 _ rfl (by decide))) (h.r.1.cell m2) (h.r.1.cell m3) (h.r.1.cell m4) (h.r.1.cell m5) (h.r.1.cell m6) (h.r.1.cell m7) (h.r.1.cell m8) (h.r.1.cell m9) (h.r.1.cell m10) ⟨rfl, rfl⟩)
    | 3, hT =>
      obtain ⟨rfl, rfl⟩ := Prod.mk.inj (Option.some.inj (show some ((some 107 : Option Nat), (.inl (.pointer (some ⟨gT, 10, none⟩)) : Value ⊕ Nat)) = some (d, x) from hT))
      exact wpOp_of _ rfl rfl (v_f39 (.tmp 3) 2 _ 10 rfl (by decide) (veval_of ((h.ot 3 (by decide)).trans h3)) ⟨rfl, rfl⟩)
    | 4, hT =>
      obtain ⟨rfl, rfl⟩ := Prod.mk.inj (Option.some.inj (show some ((some 108 : Option Nat), (.inl (.agg #[s0, s1]) : Value ⊕ Nat)) = some (d, x) from hT))
      exact wpOp_of _ rfl rfl (v_load37 (.tmp 107) _ _ _ _ rfl (veval_of (h.val 3 107 _ rfl (by decide))) (h.r.1.cell m11) (h.r.1.cell m12) ⟨rfl, rfl⟩)
    | 5, hT =>
      obtain ⟨rfl, rfl⟩ := Prod.mk.inj (Option.some.inj (show some ((some 109 : Option Nat), (.inl (.pointer (some ⟨gT, 12, none⟩)) : Value ⊕ Nat)) = some (d, x) from hT))
      exact wpOp_of _ rfl rfl (v_f39 (.tmp 3) 3 _ 12 rfl (by decide) (veval_of ((h.ot 3 (by decide)).trans h3)) ⟨rfl, rfl⟩)
    | 6, hT =>
      obtain ⟨rfl, rfl⟩ := Prod.mk.inj (Option.some.inj (show some ((some 110 : Option Nat), (.inl (.agg #[t0, t1]) : Value ⊕ Nat)) = some (d, x) from hT))
      exact wpOp_of _ rfl rfl (v_load37 (.tmp 109) _ _ _ _ rfl (veval_of (h.val 5 109 _ rfl (by decide))) (h.r.1.cell m13) (h.r.1.cell m14) ⟨rfl, rfl⟩)
    | 7, hT =>
      obtain ⟨rfl, rfl⟩ := Prod.mk.inj (Option.some.inj (show some ((some 111 : Option Nat), (.inr 0 : Value ⊕ Nat)) = some (d, x) from hT))
      refine wpOp_of _ rfl rfl (v_call 19 _ _ rfl _ Try.func19 (by kernel_rfl) (by kernel_rfl) #[.pointer (some ⟨gS, 0, none⟩), .agg #[p0, p1, p2, p3, p4, p5, p6, p7, p8], .agg #[s0, s1], .agg #[t0, t1]] (by simp [veval_of (h.val 0 104 _ rfl (by decide)), veval_of (h.val 2 106 _ rfl (by decide)), veval_of (h.val 4 108 _ rfl (by decide)), veval_of (h.val 6 110 _ rfl (by decide))]; first | done | rfl | exact ⟨rfl, rfl⟩ | exact ⟨rfl, rfl, rfl⟩ | exact ⟨rfl, rfl, rfl, rfl⟩) ((k0 w' h.r.1).mono ?_))
      rintro e y ⟨u, rfl, hu, kz⟩
      exact ⟨_, rfl, _, rfl, RK.step h.r hVV kz hu⟩
    | 8, hT =>
      obtain ⟨rfl, rfl⟩ := Prod.mk.inj (Option.some.inj (show some ((some 112 : Option Nat), (.inl (.bool true) : Value ⊕ Nat)) = some (d, x) from hT))
      obtain ⟨u0, e0⟩ := h.has 0 7 rfl 42 (by kernel_rfl)
      have hv0 := h.r.2 0 u0 e0
      have q0 := x0 u0 _ hv0
      subst q0
      exact wpOp_of _ rfl rfl (v_move (.tmp 111) _ rfl (veval_of (h.vale 7 111 0 rfl (by decide) e0)) ⟨rfl, rfl⟩)
    | 9, hT =>
      obtain ⟨rfl, rfl⟩ := Prod.mk.inj (Option.some.inj (show some ((some 113 : Option Nat), (.inl (.pointer (some ⟨gS, 0, none⟩)) : Value ⊕ Nat)) = some (d, x) from hT))
      exact wpOp_yes _ rfl 8 _ rfl 112 rfl rfl (h.val 8 112 _ rfl (by decide)) (v_move (.tmp 4) _ rfl (veval_of ((h.ot 4 (by decide)).trans h4)) ⟨rfl, rfl⟩)
    | 10, hT =>
      obtain ⟨rfl, rfl⟩ := Prod.mk.inj (Option.some.inj (show some ((some 114 : Option Nat), (.inl (.pointer (some ⟨gT, 0, none⟩)) : Value ⊕ Nat)) = some (d, x) from hT))
      exact wpOp_yes _ rfl 8 _ rfl 112 rfl rfl (h.val 8 112 _ rfl (by decide)) (v_f39 (.tmp 3) 0 _ 0 rfl (by decide) (veval_of ((h.ot 3 (by decide)).trans h3)) ⟨rfl, rfl⟩)
    | 11, hT =>
      obtain ⟨rfl, rfl⟩ := Prod.mk.inj (Option.some.inj (show some ((some 115 : Option Nat), (.inl (.agg #[p0, p1, p2, p3, p4, p5, p6, p7, p8]) : Value ⊕ Nat)) = some (d, x) from hT))
      exact wpOp_yes _ rfl 8 _ rfl 112 rfl rfl (h.val 8 112 _ rfl (by decide)) (v_load33 (.tmp 114) _ _ _ _ _ _ _ _ _ _ rfl (veval_of (h.val 10 114 _ rfl (by decide))) (h.r.1.cell m2) (h.r.1.cell m3) (h.r.1.cell m4) (h.r.1.cell m5) (h.r.1.cell m6) (h.r.1.cell m7) (h.r.1.cell m8) (h.r.1.cell m9) (h.r.1.cell m10) ⟨rfl, rfl⟩)
    | 12, hT =>
      obtain ⟨rfl, rfl⟩ := Prod.mk.inj (Option.some.inj (show some ((some 116 : Option Nat), (.inl (.pointer (some ⟨gT, 10, none⟩)) : Value ⊕ Nat)) = some (d, x) from hT))
      exact wpOp_yes _ rfl 8 _ rfl 112 rfl rfl (h.val 8 112 _ rfl (by decide)) (v_f39 (.tmp 3) 2 _ 10 rfl (by decide) (veval_of ((h.ot 3 (by decide)).trans h3)) ⟨rfl, rfl⟩)
    | 13, hT =>
      obtain ⟨rfl, rfl⟩ := Prod.mk.inj (Option.some.inj (show some ((some 117 : Option Nat), (.inl (.agg #[s0, s1]) : Value ⊕ Nat)) = some (d, x) from hT))
      exact wpOp_yes _ rfl 8 _ rfl 112 rfl rfl (h.val 8 112 _ rfl (by decide)) (v_load37 (.tmp 116) _ _ _ _ rfl (veval_of (h.val 12 116 _ rfl (by decide))) (h.r.1.cell m11) (h.r.1.cell m12) ⟨rfl, rfl⟩)
    | 14, hT =>
      obtain ⟨rfl, rfl⟩ := Prod.mk.inj (Option.some.inj (show some ((some 118 : Option Nat), (.inl (.pointer (some ⟨gT, 0, none⟩)) : Value ⊕ Nat)) = some (d, x) from hT))
      exact wpOp_yes _ rfl 8 _ rfl 112 rfl rfl (h.val 8 112 _ rfl (by decide)) (v_f39 (.tmp 3) 0 _ 0 rfl (by decide) (veval_of ((h.ot 3 (by decide)).trans h3)) ⟨rfl, rfl⟩)
    | 15, hT =>
      obtain ⟨rfl, rfl⟩ := Prod.mk.inj (Option.some.inj (show some ((some 119 : Option Nat), (.inl (.agg #[p0, p1, p2, p3, p4, p5, p6, p7, p8]) : Value ⊕ Nat)) = some (d, x) from hT))
      exact wpOp_yes _ rfl 8 _ rfl 112 rfl rfl (h.val 8 112 _ rfl (by decide)) (v_load33 (.tmp 118) _ _ _ _ _ _ _ _ _ _ rfl (veval_of (h.val 14 118 _ rfl (by decide))) (h.r.1.cell m2) (h.r.1.cell m3) (h.r.1.cell m4) (h.r.1.cell m5) (h.r.1.cell m6) (h.r.1.cell m7) (h.r.1.cell m8) (h.r.1.cell m9) (h.r.1.cell m10) ⟨rfl, rfl⟩)
    | 16, hT =>
      obtain ⟨rfl, rfl⟩ := Prod.mk.inj (Option.some.inj (show some ((some 120 : Option Nat), (.inl (.pointer (some ⟨gT, 10, none⟩)) : Value ⊕ Nat)) = some (d, x) from hT))
      exact wpOp_yes _ rfl 8 _ rfl 112 rfl rfl (h.val 8 112 _ rfl (by decide)) (v_f39 (.tmp 3) 2 _ 10 rfl (by decide) (veval_of ((h.ot 3 (by decide)).trans h3)) ⟨rfl, rfl⟩)
    | 17, hT =>
      obtain ⟨rfl, rfl⟩ := Prod.mk.inj (Option.some.inj (show some ((some 121 : Option Nat), (.inl (.agg #[s0, s1]) : Value ⊕ Nat)) = some (d, x) from hT))
      exact wpOp_yes _ rfl 8 _ rfl 112 rfl rfl (h.val 8 112 _ rfl (by decide)) (v_load37 (.tmp 120) _ _ _ _ rfl (veval_of (h.val 16 120 _ rfl (by decide))) (h.r.1.cell m11) (h.r.1.cell m12) ⟨rfl, rfl⟩)
    | 18, hT =>
      obtain ⟨rfl, rfl⟩ := Prod.mk.inj (Option.some.inj (show some ((some 122 : Option Nat), (.inr 1 : Value ⊕ Nat)) = some (d, x) from hT))
      refine wpOp_yes _ rfl 8 _ rfl 112 rfl rfl (h.val 8 112 _ rfl (by decide)) (v_call 20 _ _ rfl _ Try.func20 (by kernel_rfl) (by kernel_rfl) #[.agg #[p0, p1, p2, p3, p4, p5, p6, p7, p8], .agg #[s0, s1]] (by simp [veval_of (h.val 15 119 _ rfl (by decide)), veval_of (h.val 17 121 _ rfl (by decide))]; first | done | rfl | exact ⟨rfl, rfl⟩ | exact ⟨rfl, rfl, rfl⟩ | exact ⟨rfl, rfl, rfl, rfl⟩) ((k1 w' h.r.1).mono ?_))
      rintro e y ⟨u, rfl, hu, kz⟩
      exact ⟨_, rfl, _, rfl, RK.step h.r hVV kz hu⟩
    | 19, hT =>
      obtain ⟨rfl, rfl⟩ := Prod.mk.inj (Option.some.inj (show some ((some 123 : Option Nat), (.inr 2 : Value ⊕ Nat)) = some (d, x) from hT))
      obtain ⟨u1, e1⟩ := h.has 1 18 rfl 42 (by kernel_rfl)
      have hv1 := h.r.2 1 u1 e1
      refine wpOp_yes _ rfl 8 _ rfl 112 rfl rfl (h.val 8 112 _ rfl (by decide)) (v_call 19 _ _ rfl _ Try.func19 (by kernel_rfl) (by kernel_rfl) #[.pointer (some ⟨gS, 0, none⟩), .agg #[p0, p1, p2, p3, p4, p5, p6, p7, p8], .agg #[s0, s1], u1] (by simp [veval_of (h.val 9 113 _ rfl (by decide)), veval_of (h.val 11 115 _ rfl (by decide)), veval_of (h.val 13 117 _ rfl (by decide)), veval_of (h.vale 18 122 1 rfl (by decide) e1)]; first | done | rfl | exact ⟨rfl, rfl⟩ | exact ⟨rfl, rfl, rfl⟩ | exact ⟨rfl, rfl, rfl, rfl⟩) ((k2 w' u1 h.r.1 hv1).mono ?_))
      rintro e y ⟨u, rfl, hu, kz⟩
      exact ⟨_, rfl, _, rfl, RK.step h.r hVV kz hu⟩
    | 20, hT =>
      obtain ⟨rfl, rfl⟩ := Prod.mk.inj (Option.some.inj (show some ((some 124 : Option Nat), (.inl (.bool true) : Value ⊕ Nat)) = some (d, x) from hT))
      obtain ⟨u2, e2⟩ := h.has 2 19 rfl 42 (by kernel_rfl)
      have hv2 := h.r.2 2 u2 e2
      have q2 := x2 u2 _ hv2
      subst q2
      exact wpOp_of _ rfl rfl (v_pickT (.tmp 112) (.tmp 123) _ _ rfl (veval_of (h.val 8 112 _ rfl (by decide))) (veval_of (h.vale 19 123 2 rfl (by decide) e2)) ⟨rfl, rfl⟩)
    | 21, hT =>
      obtain ⟨rfl, rfl⟩ := Prod.mk.inj (Option.some.inj (show some ((some 125 : Option Nat), (.inl (.bool true) : Value ⊕ Nat)) = some (d, x) from hT))
      exact wpOp_of _ rfl rfl (v_move (.tmp 124) _ rfl (veval_of (h.val 20 124 _ rfl (by decide))) ⟨rfl, rfl⟩)
    | 22, hT =>
      obtain ⟨rfl, rfl⟩ := Prod.mk.inj (Option.some.inj (show some ((some 126 : Option Nat), (.inl (.pointer (some ⟨gS, 0, none⟩)) : Value ⊕ Nat)) = some (d, x) from hT))
      exact wpOp_yes _ rfl 21 _ rfl 125 rfl rfl (h.val 21 125 _ rfl (by decide)) (v_move (.tmp 4) _ rfl (veval_of ((h.ot 4 (by decide)).trans h4)) ⟨rfl, rfl⟩)
    | 23, hT =>
      obtain ⟨rfl, rfl⟩ := Prod.mk.inj (Option.some.inj (show some ((some 127 : Option Nat), (.inl (.pointer (some ⟨gT, 0, none⟩)) : Value ⊕ Nat)) = some (d, x) from hT))
      exact wpOp_yes _ rfl 21 _ rfl 125 rfl rfl (h.val 21 125 _ rfl (by decide)) (v_f39 (.tmp 3) 0 _ 0 rfl (by decide) (veval_of ((h.ot 3 (by decide)).trans h3)) ⟨rfl, rfl⟩)
    | 24, hT =>
      obtain ⟨rfl, rfl⟩ := Prod.mk.inj (Option.some.inj (show some ((some 128 : Option Nat), (.inl (.agg #[p0, p1, p2, p3, p4, p5, p6, p7, p8]) : Value ⊕ Nat)) = some (d, x) from hT))
      exact wpOp_yes _ rfl 21 _ rfl 125 rfl rfl (h.val 21 125 _ rfl (by decide)) (v_load33 (.tmp 127) _ _ _ _ _ _ _ _ _ _ rfl (veval_of (h.val 23 127 _ rfl (by decide))) (h.r.1.cell m2) (h.r.1.cell m3) (h.r.1.cell m4) (h.r.1.cell m5) (h.r.1.cell m6) (h.r.1.cell m7) (h.r.1.cell m8) (h.r.1.cell m9) (h.r.1.cell m10) ⟨rfl, rfl⟩)
    | 25, hT =>
      obtain ⟨rfl, rfl⟩ := Prod.mk.inj (Option.some.inj (show some ((some 129 : Option Nat), (.inl (.agg #[f0, f1]) : Value ⊕ Nat)) = some (d, x) from hT))
      exact wpOp_yes _ rfl 21 _ rfl 125 rfl rfl (h.val 21 125 _ rfl (by decide)) (v_load37 (.tmp 8) _ _ _ _ rfl (veval_of ((h.ot 8 (by decide)).trans h8)) (h.r.1.cell m0) (h.r.1.cell m1) ⟨rfl, rfl⟩)
    | 26, hT =>
      obtain ⟨rfl, rfl⟩ := Prod.mk.inj (Option.some.inj (show some ((some 130 : Option Nat), (.inl (.pointer (some ⟨gT, 12, none⟩)) : Value ⊕ Nat)) = some (d, x) from hT))
      exact wpOp_yes _ rfl 21 _ rfl 125 rfl rfl (h.val 21 125 _ rfl (by decide)) (v_f39 (.tmp 3) 3 _ 12 rfl (by decide) (veval_of ((h.ot 3 (by decide)).trans h3)) ⟨rfl, rfl⟩)
    | 27, hT =>
      obtain ⟨rfl, rfl⟩ := Prod.mk.inj (Option.some.inj (show some ((some 131 : Option Nat), (.inl (.agg #[t0, t1]) : Value ⊕ Nat)) = some (d, x) from hT))
      exact wpOp_yes _ rfl 21 _ rfl 125 rfl rfl (h.val 21 125 _ rfl (by decide)) (v_load37 (.tmp 130) _ _ _ _ rfl (veval_of (h.val 26 130 _ rfl (by decide))) (h.r.1.cell m13) (h.r.1.cell m14) ⟨rfl, rfl⟩)
    | 28, hT =>
      obtain ⟨rfl, rfl⟩ := Prod.mk.inj (Option.some.inj (show some ((some 132 : Option Nat), (.inr 3 : Value ⊕ Nat)) = some (d, x) from hT))
      refine wpOp_yes _ rfl 21 _ rfl 125 rfl rfl (h.val 21 125 _ rfl (by decide)) (v_call 19 _ _ rfl _ Try.func19 (by kernel_rfl) (by kernel_rfl) #[.pointer (some ⟨gS, 0, none⟩), .agg #[p0, p1, p2, p3, p4, p5, p6, p7, p8], .agg #[f0, f1], .agg #[t0, t1]] (by simp [veval_of (h.val 22 126 _ rfl (by decide)), veval_of (h.val 24 128 _ rfl (by decide)), veval_of (h.val 25 129 _ rfl (by decide)), veval_of (h.val 27 131 _ rfl (by decide))]; first | done | rfl | exact ⟨rfl, rfl⟩ | exact ⟨rfl, rfl, rfl⟩ | exact ⟨rfl, rfl, rfl, rfl⟩) ((k3 w' h.r.1).mono ?_))
      rintro e y ⟨u, rfl, hu, kz⟩
      exact ⟨_, rfl, _, rfl, RK.step h.r hVV kz hu⟩
    | 29, hT =>
      obtain ⟨rfl, rfl⟩ := Prod.mk.inj (Option.some.inj (show some ((some 133 : Option Nat), (.inl (.bool true) : Value ⊕ Nat)) = some (d, x) from hT))
      obtain ⟨u3, e3⟩ := h.has 3 28 rfl 42 (by kernel_rfl)
      have hv3 := h.r.2 3 u3 e3
      have q3 := x3 u3 _ hv3
      subst q3
      exact wpOp_of _ rfl rfl (v_pickT (.tmp 125) (.tmp 132) _ _ rfl (veval_of (h.val 21 125 _ rfl (by decide))) (veval_of (h.vale 28 132 3 rfl (by decide) e3)) ⟨rfl, rfl⟩)
    | 30, hT =>
      obtain ⟨rfl, rfl⟩ := Prod.mk.inj (Option.some.inj (show some ((some 134 : Option Nat), (.inl (.bool true) : Value ⊕ Nat)) = some (d, x) from hT))
      exact wpOp_of _ rfl rfl (v_move (.tmp 133) _ rfl (veval_of (h.val 29 133 _ rfl (by decide))) ⟨rfl, rfl⟩)
    | 31, hT =>
      obtain ⟨rfl, rfl⟩ := Prod.mk.inj (Option.some.inj (show some ((some 135 : Option Nat), (.inl (.pointer (some ⟨gS, 0, none⟩)) : Value ⊕ Nat)) = some (d, x) from hT))
      exact wpOp_yes _ rfl 30 _ rfl 134 rfl rfl (h.val 30 134 _ rfl (by decide)) (v_move (.tmp 4) _ rfl (veval_of ((h.ot 4 (by decide)).trans h4)) ⟨rfl, rfl⟩)
    | 32, hT =>
      obtain ⟨rfl, rfl⟩ := Prod.mk.inj (Option.some.inj (show some ((some 136 : Option Nat), (.inl (.pointer (some ⟨gT, 0, none⟩)) : Value ⊕ Nat)) = some (d, x) from hT))
      exact wpOp_yes _ rfl 30 _ rfl 134 rfl rfl (h.val 30 134 _ rfl (by decide)) (v_f39 (.tmp 3) 0 _ 0 rfl (by decide) (veval_of ((h.ot 3 (by decide)).trans h3)) ⟨rfl, rfl⟩)
    | 33, hT =>
      obtain ⟨rfl, rfl⟩ := Prod.mk.inj (Option.some.inj (show some ((some 137 : Option Nat), (.inl (.agg #[p0, p1, p2, p3, p4, p5, p6, p7, p8]) : Value ⊕ Nat)) = some (d, x) from hT))
      exact wpOp_yes _ rfl 30 _ rfl 134 rfl rfl (h.val 30 134 _ rfl (by decide)) (v_load33 (.tmp 136) _ _ _ _ _ _ _ _ _ _ rfl (veval_of (h.val 32 136 _ rfl (by decide))) (h.r.1.cell m2) (h.r.1.cell m3) (h.r.1.cell m4) (h.r.1.cell m5) (h.r.1.cell m6) (h.r.1.cell m7) (h.r.1.cell m8) (h.r.1.cell m9) (h.r.1.cell m10) ⟨rfl, rfl⟩)
    | 34, hT =>
      obtain ⟨rfl, rfl⟩ := Prod.mk.inj (Option.some.inj (show some ((some 138 : Option Nat), (.inl (.agg #[f0, f1]) : Value ⊕ Nat)) = some (d, x) from hT))
      exact wpOp_yes _ rfl 30 _ rfl 134 rfl rfl (h.val 30 134 _ rfl (by decide)) (v_load37 (.tmp 8) _ _ _ _ rfl (veval_of ((h.ot 8 (by decide)).trans h8)) (h.r.1.cell m0) (h.r.1.cell m1) ⟨rfl, rfl⟩)
    | 35, hT =>
      obtain ⟨rfl, rfl⟩ := Prod.mk.inj (Option.some.inj (show some ((some 139 : Option Nat), (.inl (.pointer (some ⟨gT, 0, none⟩)) : Value ⊕ Nat)) = some (d, x) from hT))
      exact wpOp_yes _ rfl 30 _ rfl 134 rfl rfl (h.val 30 134 _ rfl (by decide)) (v_f39 (.tmp 3) 0 _ 0 rfl (by decide) (veval_of ((h.ot 3 (by decide)).trans h3)) ⟨rfl, rfl⟩)
    | 36, hT =>
      obtain ⟨rfl, rfl⟩ := Prod.mk.inj (Option.some.inj (show some ((some 140 : Option Nat), (.inl (.agg #[p0, p1, p2, p3, p4, p5, p6, p7, p8]) : Value ⊕ Nat)) = some (d, x) from hT))
      exact wpOp_yes _ rfl 30 _ rfl 134 rfl rfl (h.val 30 134 _ rfl (by decide)) (v_load33 (.tmp 139) _ _ _ _ _ _ _ _ _ _ rfl (veval_of (h.val 35 139 _ rfl (by decide))) (h.r.1.cell m2) (h.r.1.cell m3) (h.r.1.cell m4) (h.r.1.cell m5) (h.r.1.cell m6) (h.r.1.cell m7) (h.r.1.cell m8) (h.r.1.cell m9) (h.r.1.cell m10) ⟨rfl, rfl⟩)
    | 37, hT =>
      obtain ⟨rfl, rfl⟩ := Prod.mk.inj (Option.some.inj (show some ((some 141 : Option Nat), (.inl (.agg #[f0, f1]) : Value ⊕ Nat)) = some (d, x) from hT))
      exact wpOp_yes _ rfl 30 _ rfl 134 rfl rfl (h.val 30 134 _ rfl (by decide)) (v_load37 (.tmp 8) _ _ _ _ rfl (veval_of ((h.ot 8 (by decide)).trans h8)) (h.r.1.cell m0) (h.r.1.cell m1) ⟨rfl, rfl⟩)
    | 38, hT =>
      obtain ⟨rfl, rfl⟩ := Prod.mk.inj (Option.some.inj (show some ((some 142 : Option Nat), (.inr 4 : Value ⊕ Nat)) = some (d, x) from hT))
      refine wpOp_yes _ rfl 30 _ rfl 134 rfl rfl (h.val 30 134 _ rfl (by decide)) (v_call 20 _ _ rfl _ Try.func20 (by kernel_rfl) (by kernel_rfl) #[.agg #[p0, p1, p2, p3, p4, p5, p6, p7, p8], .agg #[f0, f1]] (by simp [veval_of (h.val 36 140 _ rfl (by decide)), veval_of (h.val 37 141 _ rfl (by decide))]; first | done | rfl | exact ⟨rfl, rfl⟩ | exact ⟨rfl, rfl, rfl⟩ | exact ⟨rfl, rfl, rfl, rfl⟩) ((k4 w' h.r.1).mono ?_))
      rintro e y ⟨u, rfl, hu, kz⟩
      exact ⟨_, rfl, _, rfl, RK.step h.r hVV kz hu⟩
    | 39, hT =>
      obtain ⟨rfl, rfl⟩ := Prod.mk.inj (Option.some.inj (show some ((some 143 : Option Nat), (.inr 5 : Value ⊕ Nat)) = some (d, x) from hT))
      obtain ⟨u4, e4⟩ := h.has 4 38 rfl 42 (by kernel_rfl)
      have hv4 := h.r.2 4 u4 e4
      refine wpOp_yes _ rfl 30 _ rfl 134 rfl rfl (h.val 30 134 _ rfl (by decide)) (v_call 19 _ _ rfl _ Try.func19 (by kernel_rfl) (by kernel_rfl) #[.pointer (some ⟨gS, 0, none⟩), .agg #[p0, p1, p2, p3, p4, p5, p6, p7, p8], .agg #[f0, f1], u4] (by simp [veval_of (h.val 31 135 _ rfl (by decide)), veval_of (h.val 33 137 _ rfl (by decide)), veval_of (h.val 34 138 _ rfl (by decide)), veval_of (h.vale 38 142 4 rfl (by decide) e4)]; first | done | rfl | exact ⟨rfl, rfl⟩ | exact ⟨rfl, rfl, rfl⟩ | exact ⟨rfl, rfl, rfl, rfl⟩) ((k5 w' u4 h.r.1 hv4).mono ?_))
      rintro e y ⟨u, rfl, hu, kz⟩
      exact ⟨_, rfl, _, rfl, RK.step h.r hVV kz hu⟩
    | 40, hT =>
      obtain ⟨rfl, rfl⟩ := Prod.mk.inj (Option.some.inj (show some ((some 144 : Option Nat), (.inl (.bool true) : Value ⊕ Nat)) = some (d, x) from hT))
      obtain ⟨u5, e5⟩ := h.has 5 39 rfl 42 (by kernel_rfl)
      have hv5 := h.r.2 5 u5 e5
      have q5 := x5 u5 _ hv5
      subst q5
      exact wpOp_of _ rfl rfl (v_pickT (.tmp 134) (.tmp 143) _ _ rfl (veval_of (h.val 30 134 _ rfl (by decide))) (veval_of (h.vale 39 143 5 rfl (by decide) e5)) ⟨rfl, rfl⟩)
    | 41, hT =>
      obtain ⟨rfl, rfl⟩ := Prod.mk.inj (Option.some.inj (show some ((some 2 : Option Nat), (.inl (.bool true) : Value ⊕ Nat)) = some (d, x) from hT))
      exact wpOp_of _ rfl rfl (v_asg (.tmp 144) _ rfl (veval_of (h.val 40 144 _ rfl (by decide))) ⟨rfl, rfl⟩)
    | i + 42, hT => simp [rfT] at hT
  · intro vs w' hv hR
    exact hend vs w' hR.2 (fun k hk => hv k (by simpa using hk)) hR.1
end Go.Proofs.Qxb6500772a
