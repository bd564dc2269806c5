/- blastlaw: regions of agrees. -/
import Derived.Test.Qxb6500772aKa
namespace Go.Proofs.Qxb6500772a
open Go Go.RowKit Go.Qm
set_option linter.unusedVariables false
set_option linter.unusedSimpArgs false
def ag1 : Array Oper := #[{ dst := some 10, op := Go.Op.move (Go.Operand.tmp 0), type := 41, pos := "laws.go:57", after := #[], guard := none }, { dst := some 11, op := Go.Op.nilCheck (Go.Operand.tmp 10), type := 0, pos := "laws.go:57", after := #[{ on := 0, ground := Go.Ground.data }], guard := none }, { dst := some 12, op := Go.Op.fieldAddr 52 (Go.Operand.tmp 11) 0, type := 0, pos := "laws.go:57", after := #[{ on := 1, ground := Go.Ground.data }], guard := none }, { dst := some 13, op := Go.Op.load 44 (Go.Operand.tmp 12), type := 44, pos := "laws.go:57", after := #[{ on := 2, ground := Go.Ground.data }], guard := none }, { dst := some 14, op := Go.Op.move (Go.Operand.tmp 0), type := 41, pos := "laws.go:57", after := #[], guard := none }, { dst := some 15, op := Go.Op.load 37 (Go.Operand.tmp 6), type := 37, pos := "laws.go:57", after := #[], guard := none }, { dst := some 16, op := Go.Op.load 37 (Go.Operand.tmp 7), type := 37, pos := "laws.go:57", after := #[], guard := none }, { dst := some 17, op := Go.Op.call { callee := Go.Callee.value (Go.Operand.func 10), args := #[Go.Operand.tmp 14, Go.Operand.tmp 15, Go.Operand.tmp 16], argTypes := #[41, 37, 37] }, type := 55, pos := "laws.go:57", after := #[{ on := 4, ground := Go.Ground.data }, { on := 5, ground := Go.Ground.data }, { on := 6, ground := Go.Ground.data }], guard := none }, { dst := some 18, op := Go.Op.call { callee := Go.Callee.value (Go.Operand.func 9), args := #[Go.Operand.tmp 13, Go.Operand.tmp 17], argTypes := #[44, 55] }, type := 53, pos := "laws.go:57", after := #[{ on := 3, ground := Go.Ground.data }, { on := 7, ground := Go.Ground.data }, { on := 7, ground := Go.Ground.chain }], guard := none }, { dst := some 9, op := Go.Op.assign (Go.Operand.tmp 18), type := 53, pos := "laws.go:57", after := #[{ on := 8, ground := Go.Ground.data }, { on := 8, ground := Go.Ground.chain }, { on := 0, ground := Go.Ground.phase }, { on := 1, ground := Go.Ground.phase }, { on := 2, ground := Go.Ground.phase }, { on := 3, ground := Go.Ground.phase }, { on := 4, ground := Go.Ground.phase }, { on := 5, ground := Go.Ground.phase }, { on := 6, ground := Go.Ground.phase }, { on := 7, ground := Go.Ground.phase }, { on := 8, ground := Go.Ground.phase }], guard := none }]
def ag1T (gS gc g6 g7 : Nat) (s0 s1 t0 t1 : Value) : List (Option Nat × (Value ⊕ Nat)) := [(some 10, .inl (.pointer (some ⟨gS, 0, none⟩))), (some 11, .inl (.pointer (some ⟨gS, 0, none⟩))), (some 12, .inl (.pointer (some ⟨gS, 0, none⟩))), (some 13, .inl (.pointer (some ⟨gc, 0, none⟩))), (some 14, .inl (.pointer (some ⟨gS, 0, none⟩))), (some 15, .inl (.agg #[s0, s1])), (some 16, .inl (.agg #[t0, t1])), (some 17, .inr 0), (some 18, .inr 1), (some 9, .inr 2)]
theorem ag1_chk : chk ag1 ag1.size = true := by kernel_rfl
set_option maxRecDepth 4000 in
set_option maxHeartbeats 4000000 in
theorem ag1_c {Q : Exit → Act → World → Prop} {a0 : Act} {w : World} (gS gc g6 g7 : Nat) (s0 s1 t0 t1 : Value) (hz0 : a0.tmps.size = 78) (h0 : a0.tmps[0]? = some (.pointer (some ⟨gS, 0, none⟩))) (h6 : a0.tmps[6]? = some (.pointer (some ⟨g6, 0, none⟩))) (h7 : a0.tmps[7]? = some (.pointer (some ⟨g7, 0, none⟩))) (m0 : w.drew.cell? ⟨g6, 0, none⟩ = some (s0)) (m1 : w.drew.cell? ⟨g6, 1, none⟩ = some (s1)) (m2 : w.drew.cell? ⟨g7, 0, none⟩ = some (t0)) (m3 : w.drew.cell? ⟨g7, 1, none⟩ = some (t1)) (m4 : w.drew.cell? ⟨gS, 0, none⟩ = some (.pointer (some ⟨gc, 0, none⟩)))  (VV : Nat → Value → World → Prop) (hVV : ∀ k u Z Z', Keep Z Z' → VV k u Z → VV k u Z') (k0 : ∀ (Z : World), Keep w.drew Z → Calls Try.prog 10 #[.pointer (some ⟨gS, 0, none⟩), .agg #[s0, s1], .agg #[t0, t1]] Z fun e w' => ∃ u, e = .returned u ∧ VV 0 u w' ∧ Keep Z w') (k1 : ∀ (Z : World) (u0 : Value), Keep w.drew Z → VV 0 u0 Z → Calls Try.prog 9 #[.pointer (some ⟨gc, 0, none⟩), u0] Z fun e w' => ∃ u, e = .returned u ∧ VV 1 u w' ∧ Keep Z w') (z2 : ∀ u Z, VV 1 u Z → VV 2 u Z)
    (hend : ∀ vs w', (∀ k u, vs k = some u → VV k u w') → (∀ k < 3, ∃ u, vs k = some u) → Keep w.drew w' → Q .normal (lay a0 (Lmx (ag1T gS gc g6 g7 s0 s1 t0 t1) vs)) w') :
    (Code.region 1 ag1 true).wp Try.prog Q a0 w := by
  refine wp_region_mx (by rfl) (ag1T gS gc g6 g7 s0 s1 t0 t1) [10, 11, 12, 13, 14, 15, 16, 17, 18, 9] [none, none, none, none, none, none, none, some 0, some 1, some 2] [7, 8, 9] rfl rfl rfl ag1_chk (by decide) (by decide) (by
    intro d hd
    rw [hz0]
    have : ∀ y ∈ [10, 11, 12, 13, 14, 15, 16, 17, 18, 9], y < 78 := by decide
    exact this _ hd) (RK w.drew VV) RK.start ?_ ?_
  · intro i d x hT listed vs a w' h
    match i, hT with
    | 0, hT =>
      obtain ⟨rfl, rfl⟩ := Prod.mk.inj (Option.some.inj (show some ((some 10 : Option Nat), (.inl (.pointer (some ⟨gS, 0, none⟩)) : Value ⊕ Nat)) = some (d, x) from hT))
      exact wpOp_of _ rfl rfl (v_move (.tmp 0) _ rfl (veval_of ((h.ot 0 (by decide)).trans h0)) ⟨rfl, rfl⟩)
    | 1, hT =>
      obtain ⟨rfl, rfl⟩ := Prod.mk.inj (Option.some.inj (show some ((some 11 : Option Nat), (.inl (.pointer (some ⟨gS, 0, none⟩)) : Value ⊕ Nat)) = some (d, x) from hT))
      exact wpOp_of _ rfl rfl (v_nil (.tmp 10) _ rfl (veval_of (h.val 0 10 _ rfl (by decide))) ⟨rfl, rfl⟩)
    | 2, hT =>
      obtain ⟨rfl, rfl⟩ := Prod.mk.inj (Option.some.inj (show some ((some 12 : Option Nat), (.inl (.pointer (some ⟨gS, 0, none⟩)) : Value ⊕ Nat)) = some (d, x) from hT))
      exact wpOp_of _ rfl rfl (v_g52 (.tmp 11) 0 _ 0 rfl (by decide) (veval_of (h.val 1 11 _ rfl (by decide))) ⟨rfl, rfl⟩)
    | 3, hT =>
      obtain ⟨rfl, rfl⟩ := Prod.mk.inj (Option.some.inj (show some ((some 13 : Option Nat), (.inl (.pointer (some ⟨gc, 0, none⟩)) : Value ⊕ Nat)) = some (d, x) from hT))
      exact wpOp_of _ rfl rfl (v_ld44 (.tmp 12) _ _ _ rfl (veval_of (h.val 2 12 _ rfl (by decide))) (h.r.1.cell m4) ⟨rfl, rfl⟩)
    | 4, hT =>
      obtain ⟨rfl, rfl⟩ := Prod.mk.inj (Option.some.inj (show some ((some 14 : Option Nat), (.inl (.pointer (some ⟨gS, 0, none⟩)) : Value ⊕ Nat)) = some (d, x) from hT))
      exact wpOp_of _ rfl rfl (v_move (.tmp 0) _ rfl (veval_of ((h.ot 0 (by decide)).trans h0)) ⟨rfl, rfl⟩)
    | 5, hT =>
      obtain ⟨rfl, rfl⟩ := Prod.mk.inj (Option.some.inj (show some ((some 15 : Option Nat), (.inl (.agg #[s0, s1]) : Value ⊕ Nat)) = some (d, x) from hT))
      exact wpOp_of _ rfl rfl (v_load37 (.tmp 6) _ _ _ _ rfl (veval_of ((h.ot 6 (by decide)).trans h6)) (h.r.1.cell m0) (h.r.1.cell m1) ⟨rfl, rfl⟩)
    | 6, hT =>
      obtain ⟨rfl, rfl⟩ := Prod.mk.inj (Option.some.inj (show some ((some 16 : Option Nat), (.inl (.agg #[t0, t1]) : Value ⊕ Nat)) = some (d, x) from hT))
      exact wpOp_of _ rfl rfl (v_load37 (.tmp 7) _ _ _ _ rfl (veval_of ((h.ot 7 (by decide)).trans h7)) (h.r.1.cell m2) (h.r.1.cell m3) ⟨rfl, rfl⟩)
    | 7, hT =>
      obtain ⟨rfl, rfl⟩ := Prod.mk.inj (Option.some.inj (show some ((some 17 : Option Nat), (.inr 0 : Value ⊕ Nat)) = some (d, x) from hT))
      refine wpOp_of _ rfl rfl (v_call 10 _ _ rfl _ Try.func10 (by kernel_rfl) (by kernel_rfl) #[.pointer (some ⟨gS, 0, none⟩), .agg #[s0, s1], .agg #[t0, t1]] (by simp [veval_of (h.val 4 14 _ rfl (by decide)), veval_of (h.val 5 15 _ rfl (by decide)), veval_of (h.val 6 16 _ rfl (by decide))]; first | done | rfl | exact ⟨rfl, rfl⟩ | exact ⟨rfl, rfl, rfl⟩ | exact ⟨rfl, rfl, rfl, rfl⟩) ((k0 w' h.r.1).mono ?_))
      rintro e y ⟨u, rfl, hu, kz⟩
      exact ⟨_, rfl, _, rfl, RK.step h.r hVV kz hu⟩
    | 8, hT =>
      obtain ⟨rfl, rfl⟩ := Prod.mk.inj (Option.some.inj (show some ((some 18 : Option Nat), (.inr 1 : Value ⊕ Nat)) = some (d, x) from hT))
      obtain ⟨u0, e0⟩ := h.has 0 7 rfl 10 (by kernel_rfl)
      have hv0 := h.r.2 0 u0 e0
      refine wpOp_of _ rfl rfl (v_call 9 _ _ rfl _ Try.func9 (by kernel_rfl) (by kernel_rfl) #[.pointer (some ⟨gc, 0, none⟩), u0] (by simp [veval_of (h.val 3 13 _ rfl (by decide)), veval_of (h.vale 7 17 0 rfl (by decide) e0)]; first | done | rfl | exact ⟨rfl, rfl⟩ | exact ⟨rfl, rfl, rfl⟩ | exact ⟨rfl, rfl, rfl, rfl⟩) ((k1 w' u0 h.r.1 hv0).mono ?_))
      rintro e y ⟨u, rfl, hu, kz⟩
      exact ⟨_, rfl, _, rfl, RK.step h.r hVV kz hu⟩
    | 9, hT =>
      obtain ⟨rfl, rfl⟩ := Prod.mk.inj (Option.some.inj (show some ((some 9 : Option Nat), (.inr 2 : Value ⊕ Nat)) = some (d, x) from hT))
      obtain ⟨u1, e1⟩ := h.has 1 8 rfl 10 (by kernel_rfl)
      have hv1 := h.r.2 1 u1 e1
      exact wpOp_of _ rfl rfl (v_asg (.tmp 18) _ rfl (veval_of (h.vale 8 18 1 rfl (by decide) e1)) ⟨_, rfl, RK.step h.r hVV (Keep.refl _) (z2 _ _ hv1)⟩)
    | i + 10, hT => simp [ag1T] at hT
  · intro vs w' hv hR
    exact hend vs w' hR.2 (fun k hk => hv k (by simpa using hk)) hR.1
def ag2 : Array Oper := #[{ dst := some 19, op := Go.Op.move (Go.Operand.tmp 9), type := 53, pos := "laws.go:58", after := #[], guard := none }, { dst := some 20, op := Go.Op.move (Go.Operand.tmp 0), type := 41, pos := "laws.go:58", after := #[], guard := none }, { dst := some 21, op := Go.Op.nilCheck (Go.Operand.tmp 20), type := 0, pos := "laws.go:58", after := #[{ on := 1, ground := Go.Ground.data }], guard := none }, { dst := some 22, op := Go.Op.fieldAddr 52 (Go.Operand.tmp 21) 5, type := 0, pos := "laws.go:58", after := #[{ on := 2, ground := Go.Ground.data }], guard := none }, { dst := some 23, op := Go.Op.load 46 (Go.Operand.tmp 22), type := 46, pos := "laws.go:58", after := #[{ on := 3, ground := Go.Ground.data }], guard := none }, { dst := some 24, op := Go.Op.call { callee := Go.Callee.value (Go.Operand.func 42), args := #[Go.Operand.tmp 19, Go.Operand.tmp 23], argTypes := #[53, 46] }, type := 4, pos := "laws.go:58", after := #[{ on := 0, ground := Go.Ground.data }, { on := 4, ground := Go.Ground.data }], guard := none }, { dst := some 25, op := Go.Op.load 33 (Go.Operand.tmp 5), type := 33, pos := "laws.go:58", after := #[], guard := none }, { dst := some 26, op := Go.Op.load 37 (Go.Operand.tmp 6), type := 37, pos := "laws.go:58", after := #[], guard := none }, { dst := some 27, op := Go.Op.call { callee := Go.Callee.value (Go.Operand.func 43), args := #[Go.Operand.tmp 25, Go.Operand.tmp 26], argTypes := #[33, 37] }, type := 4, pos := "laws.go:58", after := #[{ on := 6, ground := Go.Ground.data }, { on := 7, ground := Go.Ground.data }, { on := 5, ground := Go.Ground.chain }], guard := none }, { dst := some 28, op := Go.Op.binOp Go.BinOp.eql 4 (Go.Operand.tmp 24) (Go.Operand.tmp 27) 4, type := 4, pos := "laws.go:58", after := #[{ on := 5, ground := Go.Ground.data }, { on := 8, ground := Go.Ground.data }], guard := none }, { dst := some 29, op := Go.Op.move (Go.Operand.tmp 28), type := 4, pos := "laws.go:58", after := #[{ on := 9, ground := Go.Ground.data }, { on := 8, ground := Go.Ground.chain }], guard := none }, { dst := some 30, op := Go.Op.move (Go.Operand.tmp 9), type := 53, pos := "laws.go:58", after := #[{ on := 10, ground := Go.Ground.guard }], guard := some (10, true) }, { dst := some 31, op := Go.Op.move (Go.Operand.tmp 0), type := 41, pos := "laws.go:58", after := #[{ on := 10, ground := Go.Ground.guard }], guard := some (10, true) }, { dst := some 32, op := Go.Op.nilCheck (Go.Operand.tmp 31), type := 0, pos := "laws.go:58", after := #[{ on := 12, ground := Go.Ground.data }, { on := 10, ground := Go.Ground.guard }], guard := some (10, true) }, { dst := some 33, op := Go.Op.fieldAddr 52 (Go.Operand.tmp 32) 6, type := 0, pos := "laws.go:58", after := #[{ on := 13, ground := Go.Ground.data }, { on := 10, ground := Go.Ground.guard }], guard := some (10, true) }, { dst := some 34, op := Go.Op.load 46 (Go.Operand.tmp 33), type := 46, pos := "laws.go:58", after := #[{ on := 14, ground := Go.Ground.data }, { on := 10, ground := Go.Ground.guard }], guard := some (10, true) }, { dst := some 35, op := Go.Op.call { callee := Go.Callee.value (Go.Operand.func 42), args := #[Go.Operand.tmp 30, Go.Operand.tmp 34], argTypes := #[53, 46] }, type := 4, pos := "laws.go:59", after := #[{ on := 11, ground := Go.Ground.data }, { on := 15, ground := Go.Ground.data }, { on := 10, ground := Go.Ground.chain }, { on := 10, ground := Go.Ground.guard }], guard := some (10, true) }, { dst := some 36, op := Go.Op.load 33 (Go.Operand.tmp 5), type := 33, pos := "laws.go:58", after := #[{ on := 10, ground := Go.Ground.guard }], guard := some (10, true) }, { dst := some 37, op := Go.Op.load 37 (Go.Operand.tmp 6), type := 37, pos := "laws.go:58", after := #[{ on := 10, ground := Go.Ground.guard }], guard := some (10, true) }, { dst := some 38, op := Go.Op.call { callee := Go.Callee.value (Go.Operand.func 44), args := #[Go.Operand.tmp 36, Go.Operand.tmp 37], argTypes := #[33, 37] }, type := 4, pos := "laws.go:59", after := #[{ on := 17, ground := Go.Ground.data }, { on := 18, ground := Go.Ground.data }, { on := 16, ground := Go.Ground.chain }, { on := 10, ground := Go.Ground.guard }], guard := some (10, true) }, { dst := some 39, op := Go.Op.binOp Go.BinOp.eql 4 (Go.Operand.tmp 35) (Go.Operand.tmp 38) 4, type := 4, pos := "laws.go:58", after := #[{ on := 16, ground := Go.Ground.data }, { on := 19, ground := Go.Ground.data }, { on := 10, ground := Go.Ground.guard }], guard := some (10, true) }, { dst := some 40, op := Go.Op.pick (Go.Operand.tmp 29) (Go.Operand.tmp 39) (Go.Operand.const (Go.Value.bool false)), type := 4, pos := "laws.go:58", after := #[{ on := 10, ground := Go.Ground.data }, { on := 20, ground := Go.Ground.data }], guard := none }, { dst := some 41, op := Go.Op.move (Go.Operand.tmp 40), type := 4, pos := "laws.go:58", after := #[{ on := 21, ground := Go.Ground.data }, { on := 19, ground := Go.Ground.chain }], guard := none }, { dst := some 42, op := Go.Op.move (Go.Operand.tmp 9), type := 53, pos := "laws.go:58", after := #[{ on := 22, ground := Go.Ground.guard }], guard := some (22, true) }, { dst := some 43, op := Go.Op.move (Go.Operand.tmp 0), type := 41, pos := "laws.go:58", after := #[{ on := 22, ground := Go.Ground.guard }], guard := some (22, true) }, { dst := some 44, op := Go.Op.nilCheck (Go.Operand.tmp 43), type := 0, pos := "laws.go:58", after := #[{ on := 24, ground := Go.Ground.data }, { on := 22, ground := Go.Ground.guard }], guard := some (22, true) }, { dst := some 45, op := Go.Op.fieldAddr 52 (Go.Operand.tmp 44) 7, type := 0, pos := "laws.go:58", after := #[{ on := 25, ground := Go.Ground.data }, { on := 22, ground := Go.Ground.guard }], guard := some (22, true) }, { dst := some 46, op := Go.Op.load 46 (Go.Operand.tmp 45), type := 46, pos := "laws.go:58", after := #[{ on := 26, ground := Go.Ground.data }, { on := 22, ground := Go.Ground.guard }], guard := some (22, true) }, { dst := some 47, op := Go.Op.call { callee := Go.Callee.value (Go.Operand.func 42), args := #[Go.Operand.tmp 42, Go.Operand.tmp 46], argTypes := #[53, 46] }, type := 4, pos := "laws.go:60", after := #[{ on := 23, ground := Go.Ground.data }, { on := 27, ground := Go.Ground.data }, { on := 22, ground := Go.Ground.chain }, { on := 22, ground := Go.Ground.guard }], guard := some (22, true) }, { dst := some 48, op := Go.Op.load 33 (Go.Operand.tmp 5), type := 33, pos := "laws.go:58", after := #[{ on := 22, ground := Go.Ground.guard }], guard := some (22, true) }, { dst := some 49, op := Go.Op.load 37 (Go.Operand.tmp 6), type := 37, pos := "laws.go:58", after := #[{ on := 22, ground := Go.Ground.guard }], guard := some (22, true) }, { dst := some 50, op := Go.Op.load 37 (Go.Operand.tmp 7), type := 37, pos := "laws.go:58", after := #[{ on := 22, ground := Go.Ground.guard }], guard := some (22, true) }, { dst := some 51, op := Go.Op.call { callee := Go.Callee.value (Go.Operand.func 45), args := #[Go.Operand.tmp 48, Go.Operand.tmp 49, Go.Operand.tmp 50], argTypes := #[33, 37, 37] }, type := 4, pos := "laws.go:60", after := #[{ on := 29, ground := Go.Ground.data }, { on := 30, ground := Go.Ground.data }, { on := 31, ground := Go.Ground.data }, { on := 28, ground := Go.Ground.chain }, { on := 22, ground := Go.Ground.guard }], guard := some (22, true) }, { dst := some 52, op := Go.Op.binOp Go.BinOp.eql 4 (Go.Operand.tmp 47) (Go.Operand.tmp 51) 4, type := 4, pos := "laws.go:58", after := #[{ on := 28, ground := Go.Ground.data }, { on := 32, ground := Go.Ground.data }, { on := 22, ground := Go.Ground.guard }], guard := some (22, true) }, { dst := some 53, op := Go.Op.pick (Go.Operand.tmp 41) (Go.Operand.tmp 52) (Go.Operand.const (Go.Value.bool false)), type := 4, pos := "laws.go:58", after := #[{ on := 22, ground := Go.Ground.data }, { on := 33, ground := Go.Ground.data }], guard := none }, { dst := some 54, op := Go.Op.move (Go.Operand.tmp 53), type := 4, pos := "laws.go:58", after := #[{ on := 34, ground := Go.Ground.data }, { on := 32, ground := Go.Ground.chain }], guard := none }, { dst := some 55, op := Go.Op.move (Go.Operand.tmp 9), type := 53, pos := "laws.go:58", after := #[{ on := 35, ground := Go.Ground.guard }], guard := some (35, true) }, { dst := some 56, op := Go.Op.move (Go.Operand.tmp 0), type := 41, pos := "laws.go:58", after := #[{ on := 35, ground := Go.Ground.guard }], guard := some (35, true) }, { dst := some 57, op := Go.Op.nilCheck (Go.Operand.tmp 56), type := 0, pos := "laws.go:58", after := #[{ on := 37, ground := Go.Ground.data }, { on := 35, ground := Go.Ground.guard }], guard := some (35, true) }, { dst := some 58, op := Go.Op.fieldAddr 52 (Go.Operand.tmp 57) 8, type := 0, pos := "laws.go:58", after := #[{ on := 38, ground := Go.Ground.data }, { on := 35, ground := Go.Ground.guard }], guard := some (35, true) }, { dst := some 59, op := Go.Op.load 46 (Go.Operand.tmp 58), type := 46, pos := "laws.go:58", after := #[{ on := 39, ground := Go.Ground.data }, { on := 35, ground := Go.Ground.guard }], guard := some (35, true) }, { dst := some 60, op := Go.Op.call { callee := Go.Callee.value (Go.Operand.func 42), args := #[Go.Operand.tmp 55, Go.Operand.tmp 59], argTypes := #[53, 46] }, type := 4, pos := "laws.go:61", after := #[{ on := 36, ground := Go.Ground.data }, { on := 40, ground := Go.Ground.data }, { on := 35, ground := Go.Ground.chain }, { on := 35, ground := Go.Ground.guard }], guard := some (35, true) }, { dst := some 61, op := Go.Op.load 33 (Go.Operand.tmp 5), type := 33, pos := "laws.go:58", after := #[{ on := 35, ground := Go.Ground.guard }], guard := some (35, true) }, { dst := some 62, op := Go.Op.load 37 (Go.Operand.tmp 6), type := 37, pos := "laws.go:58", after := #[{ on := 35, ground := Go.Ground.guard }], guard := some (35, true) }, { dst := some 63, op := Go.Op.call { callee := Go.Callee.value (Go.Operand.func 46), args := #[Go.Operand.tmp 61, Go.Operand.tmp 62], argTypes := #[33, 37] }, type := 4, pos := "laws.go:61", after := #[{ on := 42, ground := Go.Ground.data }, { on := 43, ground := Go.Ground.data }, { on := 41, ground := Go.Ground.chain }, { on := 35, ground := Go.Ground.guard }], guard := some (35, true) }, { dst := some 64, op := Go.Op.binOp Go.BinOp.eql 4 (Go.Operand.tmp 60) (Go.Operand.tmp 63) 4, type := 4, pos := "laws.go:58", after := #[{ on := 41, ground := Go.Ground.data }, { on := 44, ground := Go.Ground.data }, { on := 35, ground := Go.Ground.guard }], guard := some (35, true) }, { dst := some 65, op := Go.Op.pick (Go.Operand.tmp 54) (Go.Operand.tmp 64) (Go.Operand.const (Go.Value.bool false)), type := 4, pos := "laws.go:58", after := #[{ on := 35, ground := Go.Ground.data }, { on := 45, ground := Go.Ground.data }], guard := none }, { dst := some 66, op := Go.Op.move (Go.Operand.tmp 65), type := 4, pos := "laws.go:58", after := #[{ on := 46, ground := Go.Ground.data }, { on := 44, ground := Go.Ground.chain }], guard := none }, { dst := some 67, op := Go.Op.load 33 (Go.Operand.tmp 5), type := 33, pos := "laws.go:58", after := #[{ on := 47, ground := Go.Ground.guard }], guard := some (47, true) }, { dst := some 68, op := Go.Op.move (Go.Operand.tmp 0), type := 41, pos := "laws.go:58", after := #[{ on := 47, ground := Go.Ground.guard }], guard := some (47, true) }, { dst := some 69, op := Go.Op.nilCheck (Go.Operand.tmp 68), type := 0, pos := "laws.go:58", after := #[{ on := 49, ground := Go.Ground.data }, { on := 47, ground := Go.Ground.guard }], guard := some (47, true) }, { dst := some 70, op := Go.Op.fieldAddr 52 (Go.Operand.tmp 69) 3, type := 0, pos := "laws.go:58", after := #[{ on := 50, ground := Go.Ground.data }, { on := 47, ground := Go.Ground.guard }], guard := some (47, true) }, { dst := some 71, op := Go.Op.move (Go.Operand.tmp 9), type := 53, pos := "laws.go:58", after := #[{ on := 47, ground := Go.Ground.guard }], guard := some (47, true) }, { dst := some 72, op := Go.Op.call { callee := Go.Callee.value (Go.Operand.func 14), args := #[Go.Operand.tmp 70, Go.Operand.tmp 71], argTypes := #[48, 53] }, type := 37, pos := "laws.go:62", after := #[{ on := 51, ground := Go.Ground.data }, { on := 52, ground := Go.Ground.data }, { on := 47, ground := Go.Ground.chain }, { on := 47, ground := Go.Ground.guard }], guard := some (47, true) }, { dst := some 73, op := Go.Op.load 33 (Go.Operand.tmp 5), type := 33, pos := "laws.go:58", after := #[{ on := 47, ground := Go.Ground.guard }], guard := some (47, true) }, { dst := some 74, op := Go.Op.load 37 (Go.Operand.tmp 6), type := 37, pos := "laws.go:58", after := #[{ on := 47, ground := Go.Ground.guard }], guard := some (47, true) }, { dst := some 75, op := Go.Op.call { callee := Go.Callee.value (Go.Operand.func 48), args := #[Go.Operand.tmp 73, Go.Operand.tmp 74], argTypes := #[33, 37] }, type := 37, pos := "laws.go:62", after := #[{ on := 54, ground := Go.Ground.data }, { on := 55, ground := Go.Ground.data }, { on := 53, ground := Go.Ground.chain }, { on := 47, ground := Go.Ground.guard }], guard := some (47, true) }, { dst := some 76, op := Go.Op.call { callee := Go.Callee.value (Go.Operand.func 47), args := #[Go.Operand.tmp 67, Go.Operand.tmp 72, Go.Operand.tmp 75], argTypes := #[33, 37, 37] }, type := 4, pos := "laws.go:62", after := #[{ on := 48, ground := Go.Ground.data }, { on := 53, ground := Go.Ground.data }, { on := 56, ground := Go.Ground.data }, { on := 56, ground := Go.Ground.chain }, { on := 47, ground := Go.Ground.guard }], guard := some (47, true) }, { dst := some 77, op := Go.Op.pick (Go.Operand.tmp 66) (Go.Operand.tmp 76) (Go.Operand.const (Go.Value.bool false)), type := 4, pos := "laws.go:58", after := #[{ on := 47, ground := Go.Ground.data }, { on := 57, ground := Go.Ground.data }], guard := none }, { dst := some 8, op := Go.Op.assign (Go.Operand.tmp 77), type := 4, pos := "laws.go:58", after := #[{ on := 58, ground := Go.Ground.data }, { on := 57, ground := Go.Ground.chain }, { on := 0, ground := Go.Ground.phase }, { on := 1, ground := Go.Ground.phase }, { on := 2, ground := Go.Ground.phase }, { on := 3, ground := Go.Ground.phase }, { on := 4, ground := Go.Ground.phase }, { on := 5, ground := Go.Ground.phase }, { on := 6, ground := Go.Ground.phase }, { on := 7, ground := Go.Ground.phase }, { on := 8, ground := Go.Ground.phase }, { on := 9, ground := Go.Ground.phase }, { on := 10, ground := Go.Ground.phase }, { on := 11, ground := Go.Ground.phase }, { on := 12, ground := Go.Ground.phase }, { on := 13, ground := Go.Ground.phase }, { on := 14, ground := Go.Ground.phase }, { on := 15, ground := Go.Ground.phase }, { on := 16, ground := Go.Ground.phase }, { on := 17, ground := Go.Ground.phase }, { on := 18, ground := Go.Ground.phase }, { on := 19, ground := Go.Ground.phase }, { on := 20, ground := Go.Ground.phase }, { on := 21, ground := Go.Ground.phase }, { on := 22, ground := Go.Ground.phase }, { on := 23, ground := Go.Ground.phase }, { on := 24, ground := Go.Ground.phase }, { on := 25, ground := Go.Ground.phase }, { on := 26, ground := Go.Ground.phase }, { on := 27, ground := Go.Ground.phase }, { on := 28, ground := Go.Ground.phase }, { on := 29, ground := Go.Ground.phase }, { on := 30, ground := Go.Ground.phase }, { on := 31, ground := Go.Ground.phase }, { on := 32, ground := Go.Ground.phase }, { on := 33, ground := Go.Ground.phase }, { on := 34, ground := Go.Ground.phase }, { on := 35, ground := Go.Ground.phase }, { on := 36, ground := Go.Ground.phase }, { on := 37, ground := Go.Ground.phase }, { on := 38, ground := Go.Ground.phase }, { on := 39, ground := Go.Ground.phase }, { on := 40, ground := Go.Ground.phase }, { on := 41, ground := Go.Ground.phase }, { on := 42, ground := Go.Ground.phase }, { on := 43, ground := Go.Ground.phase }, { on := 44, ground := Go.Ground.phase }, { on := 45, ground := Go.Ground.phase }, { on := 46, ground := Go.Ground.phase }, { on := 47, ground := Go.Ground.phase }, { on := 48, ground := Go.Ground.phase }, { on := 49, ground := Go.Ground.phase }, { on := 50, ground := Go.Ground.phase }, { on := 51, ground := Go.Ground.phase }, { on := 52, ground := Go.Ground.phase }, { on := 53, ground := Go.Ground.phase }, { on := 54, ground := Go.Ground.phase }, { on := 55, ground := Go.Ground.phase }, { on := 56, ground := Go.Ground.phase }, { on := 57, ground := Go.Ground.phase }, { on := 58, ground := Go.Ground.phase }], guard := none }]
def ag2T (gS g5 g6 g7 b8 b9 b10 b11 : Nat) (p0 p1 p2 p3 p4 p5 p6 p7 p8 s0 s1 t0 t1 vv : Value) (i1 i2 i3 i4 : Bool) : List (Option Nat × (Value ⊕ Nat)) := [(some 19, .inl (vv)), (some 20, .inl (.pointer (some ⟨gS, 0, none⟩))), (some 21, .inl (.pointer (some ⟨gS, 0, none⟩))), (some 22, .inl (.pointer (some ⟨gS, 8, none⟩))), (some 23, .inl (.int .i64 ((b8 : Nat) : Int))), (some 24, .inr 0), (some 25, .inl (.agg #[p0, p1, p2, p3, p4, p5, p6, p7, p8])), (some 26, .inl (.agg #[s0, s1])), (some 27, .inr 1), (some 28, .inl (.bool true)), (some 29, .inl (.bool true)), (some 30, .inl (vv)), (some 31, .inl (.pointer (some ⟨gS, 0, none⟩))), (some 32, .inl (.pointer (some ⟨gS, 0, none⟩))), (some 33, .inl (.pointer (some ⟨gS, 9, none⟩))), (some 34, .inl (.int .i64 ((b9 : Nat) : Int))), (some 35, .inr 2), (some 36, .inl (.agg #[p0, p1, p2, p3, p4, p5, p6, p7, p8])), (some 37, .inl (.agg #[s0, s1])), (some 38, .inr 3), (some 39, .inl (.bool true)), (some 40, .inl (.bool true)), (some 41, .inl (.bool true)), (some 42, .inl (vv)), (some 43, .inl (.pointer (some ⟨gS, 0, none⟩))), (some 44, .inl (.pointer (some ⟨gS, 0, none⟩))), (some 45, .inl (.pointer (some ⟨gS, 10, none⟩))), (some 46, .inl (.int .i64 ((b10 : Nat) : Int))), (some 47, .inr 4), (some 48, .inl (.agg #[p0, p1, p2, p3, p4, p5, p6, p7, p8])), (some 49, .inl (.agg #[s0, s1])), (some 50, .inl (.agg #[t0, t1])), (some 51, .inr 5), (some 52, .inl (.bool true)), (some 53, .inl (.bool true)), (some 54, .inl (.bool true)), (some 55, .inl (vv)), (some 56, .inl (.pointer (some ⟨gS, 0, none⟩))), (some 57, .inl (.pointer (some ⟨gS, 0, none⟩))), (some 58, .inl (.pointer (some ⟨gS, 11, none⟩))), (some 59, .inl (.int .i64 ((b11 : Nat) : Int))), (some 60, .inr 6), (some 61, .inl (.agg #[p0, p1, p2, p3, p4, p5, p6, p7, p8])), (some 62, .inl (.agg #[s0, s1])), (some 63, .inr 7), (some 64, .inl (.bool true)), (some 65, .inl (.bool true)), (some 66, .inl (.bool true)), (some 67, .inl (.agg #[p0, p1, p2, p3, p4, p5, p6, p7, p8])), (some 68, .inl (.pointer (some ⟨gS, 0, none⟩))), (some 69, .inl (.pointer (some ⟨gS, 0, none⟩))), (some 70, .inl (.pointer (some ⟨gS, 5, none⟩))), (some 71, .inl (vv)), (some 72, .inr 8), (some 73, .inl (.agg #[p0, p1, p2, p3, p4, p5, p6, p7, p8])), (some 74, .inl (.agg #[s0, s1])), (some 75, .inr 9), (some 76, .inr 10), (some 77, .inl (.bool true)), (some 8, .inl (.bool true))]
theorem ag2_chk : chk ag2 ag2.size = true := by kernel_rfl
set_option maxRecDepth 4000 in
set_option maxHeartbeats 4000000 in
theorem ag2_c {Q : Exit → Act → World → Prop} {a0 : Act} {w : World} (gS g5 g6 g7 b8 b9 b10 b11 : Nat) (p0 p1 p2 p3 p4 p5 p6 p7 p8 s0 s1 t0 t1 vv : Value) (i1 i2 i3 i4 : Bool) (hz0 : a0.tmps.size = 78) (h0 : a0.tmps[0]? = some (.pointer (some ⟨gS, 0, none⟩))) (h5 : a0.tmps[5]? = some (.pointer (some ⟨g5, 0, none⟩))) (h6 : a0.tmps[6]? = some (.pointer (some ⟨g6, 0, none⟩))) (h7 : a0.tmps[7]? = some (.pointer (some ⟨g7, 0, none⟩))) (h9 : a0.tmps[9]? = some (vv)) (m0 : w.drew.cell? ⟨g5, 0, none⟩ = some (p0)) (m1 : w.drew.cell? ⟨g5, 1, none⟩ = some (p1)) (m2 : w.drew.cell? ⟨g5, 2, none⟩ = some (p2)) (m3 : w.drew.cell? ⟨g5, 3, none⟩ = some (p3)) (m4 : w.drew.cell? ⟨g5, 4, none⟩ = some (p4)) (m5 : w.drew.cell? ⟨g5, 5, none⟩ = some (p5)) (m6 : w.drew.cell? ⟨g5, 6, none⟩ = some (p6)) (m7 : w.drew.cell? ⟨g5, 7, none⟩ = some (p7)) (m8 : w.drew.cell? ⟨g5, 8, none⟩ = some (p8)) (m9 : w.drew.cell? ⟨g6, 0, none⟩ = some (s0)) (m10 : w.drew.cell? ⟨g6, 1, none⟩ = some (s1)) (m11 : w.drew.cell? ⟨g7, 0, none⟩ = some (t0)) (m12 : w.drew.cell? ⟨g7, 1, none⟩ = some (t1)) (m13 : w.drew.cell? ⟨gS, 8, none⟩ = some (.int .i64 ((b8 : Nat) : Int))) (m14 : w.drew.cell? ⟨gS, 9, none⟩ = some (.int .i64 ((b9 : Nat) : Int))) (m15 : w.drew.cell? ⟨gS, 10, none⟩ = some (.int .i64 ((b10 : Nat) : Int))) (m16 : w.drew.cell? ⟨gS, 11, none⟩ = some (.int .i64 ((b11 : Nat) : Int)))  (VV : Nat → Value → World → Prop) (hVV : ∀ k u Z Z', Keep Z Z' → VV k u Z → VV k u Z') (k0 : ∀ (Z : World), Keep w.drew Z → Calls Try.prog 42 #[vv, .int .i64 ((b8 : Nat) : Int)] Z fun e w' => ∃ u, e = .returned u ∧ VV 0 u w' ∧ Keep Z w') (x0 : ∀ u Z, VV 0 u Z → u = .bool i1) (k1 : ∀ (Z : World), Keep w.drew Z → Calls Try.prog 43 #[.agg #[p0, p1, p2, p3, p4, p5, p6, p7, p8], .agg #[s0, s1]] Z fun e w' => ∃ u, e = .returned u ∧ VV 1 u w' ∧ Keep Z w') (x1 : ∀ u Z, VV 1 u Z → u = .bool i1) (k2 : ∀ (Z : World), Keep w.drew Z → Calls Try.prog 42 #[vv, .int .i64 ((b9 : Nat) : Int)] Z fun e w' => ∃ u, e = .returned u ∧ VV 2 u w' ∧ Keep Z w') (x2 : ∀ u Z, VV 2 u Z → u = .bool i2) (k3 : ∀ (Z : World), Keep w.drew Z → Calls Try.prog 44 #[.agg #[p0, p1, p2, p3, p4, p5, p6, p7, p8], .agg #[s0, s1]] Z fun e w' => ∃ u, e = .returned u ∧ VV 3 u w' ∧ Keep Z w') (x3 : ∀ u Z, VV 3 u Z → u = .bool i2) (k4 : ∀ (Z : World), Keep w.drew Z → Calls Try.prog 42 #[vv, .int .i64 ((b10 : Nat) : Int)] Z fun e w' => ∃ u, e = .returned u ∧ VV 4 u w' ∧ Keep Z w') (x4 : ∀ u Z, VV 4 u Z → u = .bool i3) (k5 : ∀ (Z : World), Keep w.drew Z → Calls Try.prog 45 #[.agg #[p0, p1, p2, p3, p4, p5, p6, p7, p8], .agg #[s0, s1], .agg #[t0, t1]] Z fun e w' => ∃ u, e = .returned u ∧ VV 5 u w' ∧ Keep Z w') (x5 : ∀ u Z, VV 5 u Z → u = .bool i3) (k6 : ∀ (Z : World), Keep w.drew Z → Calls Try.prog 42 #[vv, .int .i64 ((b11 : Nat) : Int)] Z fun e w' => ∃ u, e = .returned u ∧ VV 6 u w' ∧ Keep Z w') (x6 : ∀ u Z, VV 6 u Z → u = .bool i4) (k7 : ∀ (Z : World), Keep w.drew Z → Calls Try.prog 46 #[.agg #[p0, p1, p2, p3, p4, p5, p6, p7, p8], .agg #[s0, s1]] Z fun e w' => ∃ u, e = .returned u ∧ VV 7 u w' ∧ Keep Z w') (x7 : ∀ u Z, VV 7 u Z → u = .bool i4) (k8 : ∀ (Z : World), Keep w.drew Z → Calls Try.prog 14 #[.pointer (some ⟨gS, 5, none⟩), vv] Z fun e w' => ∃ u, e = .returned u ∧ VV 8 u w' ∧ Keep Z w') (k9 : ∀ (Z : World), Keep w.drew Z → Calls Try.prog 48 #[.agg #[p0, p1, p2, p3, p4, p5, p6, p7, p8], .agg #[s0, s1]] Z fun e w' => ∃ u, e = .returned u ∧ VV 9 u w' ∧ Keep Z w') (k10 : ∀ (Z : World) (u8 : Value) (u9 : Value), Keep w.drew Z → VV 8 u8 Z → VV 9 u9 Z → Calls Try.prog 47 #[.agg #[p0, p1, p2, p3, p4, p5, p6, p7, p8], u8, u9] Z fun e w' => ∃ u, e = .returned u ∧ VV 10 u w' ∧ Keep Z w') (x10 : ∀ u Z, VV 10 u Z → u = .bool true)
    (hend : ∀ vs w', (∀ k u, vs k = some u → VV k u w') → (∀ k < 11, ∃ u, vs k = some u) → Keep w.drew w' → Q .normal (lay a0 (Lmx (ag2T gS g5 g6 g7 b8 b9 b10 b11 p0 p1 p2 p3 p4 p5 p6 p7 p8 s0 s1 t0 t1 vv i1 i2 i3 i4) vs)) w') :
    (Code.region 2 ag2 true).wp Try.prog Q a0 w := by
  refine wp_region_mx (by rfl) (ag2T gS g5 g6 g7 b8 b9 b10 b11 p0 p1 p2 p3 p4 p5 p6 p7 p8 s0 s1 t0 t1 vv i1 i2 i3 i4) [19, 20, 21, 22, 23, 24, 25, 26, 27, 28, 29, 30, 31, 32, 33, 34, 35, 36, 37, 38, 39, 40, 41, 42, 43, 44, 45, 46, 47, 48, 49, 50, 51, 52, 53, 54, 55, 56, 57, 58, 59, 60, 61, 62, 63, 64, 65, 66, 67, 68, 69, 70, 71, 72, 73, 74, 75, 76, 77, 8] [none, none, none, none, none, some 0, none, none, some 1, none, none, none, none, none, none, none, some 2, none, none, some 3, none, none, none, none, none, none, none, none, some 4, none, none, none, some 5, none, none, none, none, none, none, none, none, some 6, none, none, some 7, none, none, none, none, none, none, none, none, some 8, none, none, some 9, some 10, none, none] [5, 8, 16, 19, 28, 32, 41, 44, 53, 56, 57] rfl rfl rfl ag2_chk (by decide) (by decide) (by
    intro d hd
    rw [hz0]
    have : ∀ y ∈ [19, 20, 21, 22, 23, 24, 25, 26, 27, 28, 29, 30, 31, 32, 33, 34, 35, 36, 37, 38, 39, 40, 41, 42, 43, 44, 45, 46, 47, 48, 49, 50, 51, 52, 53, 54, 55, 56, 57, 58, 59, 60, 61, 62, 63, 64, 65, 66, 67, 68, 69, 70, 71, 72, 73, 74, 75, 76, 77, 8], y < 78 := by decide
    exact this _ hd) (RK w.drew VV) RK.start ?_ ?_
  · intro i d x hT listed vs a w' h
    match i, hT with
    | 0, hT =>
      obtain ⟨rfl, rfl⟩ := Prod.mk.inj (Option.some.inj (show some ((some 19 : Option Nat), (.inl (vv) : Value ⊕ Nat)) = some (d, x) from hT))
      exact wpOp_of _ rfl rfl (v_move (.tmp 9) _ rfl (veval_of ((h.ot 9 (by decide)).trans h9)) ⟨rfl, rfl⟩)
    | 1, hT =>
      obtain ⟨rfl, rfl⟩ := Prod.mk.inj (Option.some.inj (show some ((some 20 : Option Nat), (.inl (.pointer (some ⟨gS, 0, none⟩)) : Value ⊕ Nat)) = some (d, x) from hT))
      exact wpOp_of _ rfl rfl (v_move (.tmp 0) _ rfl (veval_of ((h.ot 0 (by decide)).trans h0)) ⟨rfl, rfl⟩)
    | 2, hT =>
      obtain ⟨rfl, rfl⟩ := Prod.mk.inj (Option.some.inj (show some ((some 21 : Option Nat), (.inl (.pointer (some ⟨gS, 0, none⟩)) : Value ⊕ Nat)) = some (d, x) from hT))
      exact wpOp_of _ rfl rfl (v_nil (.tmp 20) _ rfl (veval_of (h.val 1 20 _ rfl (by decide))) ⟨rfl, rfl⟩)
    | 3, hT =>
      obtain ⟨rfl, rfl⟩ := Prod.mk.inj (Option.some.inj (show some ((some 22 : Option Nat), (.inl (.pointer (some ⟨gS, 8, none⟩)) : Value ⊕ Nat)) = some (d, x) from hT))
      exact wpOp_of _ rfl rfl (v_g52 (.tmp 21) 5 _ 8 rfl (by decide) (veval_of (h.val 2 21 _ rfl (by decide))) ⟨rfl, rfl⟩)
    | 4, hT =>
      obtain ⟨rfl, rfl⟩ := Prod.mk.inj (Option.some.inj (show some ((some 23 : Option Nat), (.inl (.int .i64 ((b8 : Nat) : Int)) : Value ⊕ Nat)) = some (d, x) from hT))
      exact wpOp_of _ rfl rfl (v_load46 (.tmp 22) _ _ _ rfl (veval_of (h.val 3 22 _ rfl (by decide))) (h.r.1.cell m13) ⟨rfl, rfl⟩)
    | 5, hT =>
      obtain ⟨rfl, rfl⟩ := Prod.mk.inj (Option.some.inj (show some ((some 24 : Option Nat), (.inr 0 : Value ⊕ Nat)) = some (d, x) from hT))
      refine wpOp_of _ rfl rfl (v_call 42 _ _ rfl _ Try.func42 (by kernel_rfl) (by kernel_rfl) #[vv, .int .i64 ((b8 : Nat) : Int)] (by simp [veval_of (h.val 0 19 _ rfl (by decide)), veval_of (h.val 4 23 _ rfl (by decide))]; first | done | rfl | exact ⟨rfl, rfl⟩ | exact ⟨rfl, rfl, rfl⟩ | exact ⟨rfl, rfl, rfl, rfl⟩) ((k0 w' h.r.1).mono ?_))
      rintro e y ⟨u, rfl, hu, kz⟩
      exact ⟨_, rfl, _, rfl, RK.step h.r hVV kz hu⟩
    | 6, hT =>
      obtain ⟨rfl, rfl⟩ := Prod.mk.inj (Option.some.inj (show some ((some 25 : Option Nat), (.inl (.agg #[p0, p1, p2, p3, p4, p5, p6, p7, p8]) : Value ⊕ Nat)) = some (d, x) from hT))
      exact wpOp_of _ rfl rfl (v_load33 (.tmp 5) _ _ _ _ _ _ _ _ _ _ rfl (veval_of ((h.ot 5 (by decide)).trans h5)) (h.r.1.cell m0) (h.r.1.cell m1) (h.r.1.cell m2) (h.r.1.cell m3) (h.r.1.cell m4) (h.r.1.cell m5) (h.r.1.cell m6) (h.r.1.cell m7) (h.r.1.cell m8) ⟨rfl, rfl⟩)
    | 7, hT =>
      obtain ⟨rfl, rfl⟩ := Prod.mk.inj (Option.some.inj (show some ((some 26 : Option Nat), (.inl (.agg #[s0, s1]) : Value ⊕ Nat)) = some (d, x) from hT))
      exact wpOp_of _ rfl rfl (v_load37 (.tmp 6) _ _ _ _ rfl (veval_of ((h.ot 6 (by decide)).trans h6)) (h.r.1.cell m9) (h.r.1.cell m10) ⟨rfl, rfl⟩)
    | 8, hT =>
      obtain ⟨rfl, rfl⟩ := Prod.mk.inj (Option.some.inj (show some ((some 27 : Option Nat), (.inr 1 : Value ⊕ Nat)) = some (d, x) from hT))
      refine wpOp_of _ rfl rfl (v_call 43 _ _ rfl _ Try.func43 (by kernel_rfl) (by kernel_rfl) #[.agg #[p0, p1, p2, p3, p4, p5, p6, p7, p8], .agg #[s0, s1]] (by simp [veval_of (h.val 6 25 _ rfl (by decide)), veval_of (h.val 7 26 _ rfl (by decide))]; first | done | rfl | exact ⟨rfl, rfl⟩ | exact ⟨rfl, rfl, rfl⟩ | exact ⟨rfl, rfl, rfl, rfl⟩) ((k1 w' h.r.1).mono ?_))
      rintro e y ⟨u, rfl, hu, kz⟩
      exact ⟨_, rfl, _, rfl, RK.step h.r hVV kz hu⟩
    | 9, hT =>
      obtain ⟨rfl, rfl⟩ := Prod.mk.inj (Option.some.inj (show some ((some 28 : Option Nat), (.inl (.bool true) : Value ⊕ Nat)) = some (d, x) from hT))
      obtain ⟨u0, e0⟩ := h.has 0 5 rfl 60 (by kernel_rfl)
      have hv0 := h.r.2 0 u0 e0
      have q0 := x0 u0 _ hv0
      subst q0
      obtain ⟨u1, e1⟩ := h.has 1 8 rfl 60 (by kernel_rfl)
      have hv1 := h.r.2 1 u1 e1
      have q1 := x1 u1 _ hv1
      subst q1
      exact wpOp_of _ rfl rfl (v_eq4 (.tmp 24) (.tmp 27) _ _ true rfl (veval_of (h.vale 5 24 0 rfl (by decide) e0)) (veval_of (h.vale 8 27 1 rfl (by decide) e1)) (by simp) ⟨rfl, rfl⟩)
    | 10, hT =>
      obtain ⟨rfl, rfl⟩ := Prod.mk.inj (Option.some.inj (show some ((some 29 : Option Nat), (.inl (.bool true) : Value ⊕ Nat)) = some (d, x) from hT))
      exact wpOp_of _ rfl rfl (v_move (.tmp 28) _ rfl (veval_of (h.val 9 28 _ rfl (by decide))) ⟨rfl, rfl⟩)
    | 11, hT =>
      obtain ⟨rfl, rfl⟩ := Prod.mk.inj (Option.some.inj (show some ((some 30 : Option Nat), (.inl (vv) : Value ⊕ Nat)) = some (d, x) from hT))
      exact wpOp_yes _ rfl 10 _ rfl 29 rfl rfl (h.val 10 29 _ rfl (by decide)) (v_move (.tmp 9) _ rfl (veval_of ((h.ot 9 (by decide)).trans h9)) ⟨rfl, rfl⟩)
    | 12, hT =>
      obtain ⟨rfl, rfl⟩ := Prod.mk.inj (Option.some.inj (show some ((some 31 : Option Nat), (.inl (.pointer (some ⟨gS, 0, none⟩)) : Value ⊕ Nat)) = some (d, x) from hT))
      exact wpOp_yes _ rfl 10 _ rfl 29 rfl rfl (h.val 10 29 _ rfl (by decide)) (v_move (.tmp 0) _ rfl (veval_of ((h.ot 0 (by decide)).trans h0)) ⟨rfl, rfl⟩)
    | 13, hT =>
      obtain ⟨rfl, rfl⟩ := Prod.mk.inj (Option.some.inj (show some ((some 32 : Option Nat), (.inl (.pointer (some ⟨gS, 0, none⟩)) : Value ⊕ Nat)) = some (d, x) from hT))
      exact wpOp_yes _ rfl 10 _ rfl 29 rfl rfl (h.val 10 29 _ rfl (by decide)) (v_nil (.tmp 31) _ rfl (veval_of (h.val 12 31 _ rfl (by decide))) ⟨rfl, rfl⟩)
    | 14, hT =>
      obtain ⟨rfl, rfl⟩ := Prod.mk.inj (Option.some.inj (show some ((some 33 : Option Nat), (.inl (.pointer (some ⟨gS, 9, none⟩)) : Value ⊕ Nat)) = some (d, x) from hT))
      exact wpOp_yes _ rfl 10 _ rfl 29 rfl rfl (h.val 10 29 _ rfl (by decide)) (v_g52 (.tmp 32) 6 _ 9 rfl (by decide) (veval_of (h.val 13 32 _ rfl (by decide))) ⟨rfl, rfl⟩)
    | 15, hT =>
      obtain ⟨rfl, rfl⟩ := Prod.mk.inj (Option.some.inj (show some ((some 34 : Option Nat), (.inl (.int .i64 ((b9 : Nat) : Int)) : Value ⊕ Nat)) = some (d, x) from hT))
      exact wpOp_yes _ rfl 10 _ rfl 29 rfl rfl (h.val 10 29 _ rfl (by decide)) (v_load46 (.tmp 33) _ _ _ rfl (veval_of (h.val 14 33 _ rfl (by decide))) (h.r.1.cell m14) ⟨rfl, rfl⟩)
    | 16, hT =>
      obtain ⟨rfl, rfl⟩ := Prod.mk.inj (Option.some.inj (show some ((some 35 : Option Nat), (.inr 2 : Value ⊕ Nat)) = some (d, x) from hT))
      refine wpOp_yes _ rfl 10 _ rfl 29 rfl rfl (h.val 10 29 _ rfl (by decide)) (v_call 42 _ _ rfl _ Try.func42 (by kernel_rfl) (by kernel_rfl) #[vv, .int .i64 ((b9 : Nat) : Int)] (by simp [veval_of (h.val 11 30 _ rfl (by decide)), veval_of (h.val 15 34 _ rfl (by decide))]; first | done | rfl | exact ⟨rfl, rfl⟩ | exact ⟨rfl, rfl, rfl⟩ | exact ⟨rfl, rfl, rfl, rfl⟩) ((k2 w' h.r.1).mono ?_))
      rintro e y ⟨u, rfl, hu, kz⟩
      exact ⟨_, rfl, _, rfl, RK.step h.r hVV kz hu⟩
    | 17, hT =>
      obtain ⟨rfl, rfl⟩ := Prod.mk.inj (Option.some.inj (show some ((some 36 : Option Nat), (.inl (.agg #[p0, p1, p2, p3, p4, p5, p6, p7, p8]) : Value ⊕ Nat)) = some (d, x) from hT))
      exact wpOp_yes _ rfl 10 _ rfl 29 rfl rfl (h.val 10 29 _ rfl (by decide)) (v_load33 (.tmp 5) _ _ _ _ _ _ _ _ _ _ rfl (veval_of ((h.ot 5 (by decide)).trans h5)) (h.r.1.cell m0) (h.r.1.cell m1) (h.r.1.cell m2) (h.r.1.cell m3) (h.r.1.cell m4) (h.r.1.cell m5) (h.r.1.cell m6) (h.r.1.cell m7) (h.r.1.cell m8) ⟨rfl, rfl⟩)
    | 18, hT =>
      obtain ⟨rfl, rfl⟩ := Prod.mk.inj (Option.some.inj (show some ((some 37 : Option Nat), (.inl (.agg #[s0, s1]) : Value ⊕ Nat)) = some (d, x) from hT))
      exact wpOp_yes _ rfl 10 _ rfl 29 rfl rfl (h.val 10 29 _ rfl (by decide)) (v_load37 (.tmp 6) _ _ _ _ rfl (veval_of ((h.ot 6 (by decide)).trans h6)) (h.r.1.cell m9) (h.r.1.cell m10) ⟨rfl, rfl⟩)
    | 19, hT =>
      obtain ⟨rfl, rfl⟩ := Prod.mk.inj (Option.some.inj (show some ((some 38 : Option Nat), (.inr 3 : Value ⊕ Nat)) = some (d, x) from hT))
      refine wpOp_yes _ rfl 10 _ rfl 29 rfl rfl (h.val 10 29 _ rfl (by decide)) (v_call 44 _ _ rfl _ Try.func44 (by kernel_rfl) (by kernel_rfl) #[.agg #[p0, p1, p2, p3, p4, p5, p6, p7, p8], .agg #[s0, s1]] (by simp [veval_of (h.val 17 36 _ rfl (by decide)), veval_of (h.val 18 37 _ rfl (by decide))]; first | done | rfl | exact ⟨rfl, rfl⟩ | exact ⟨rfl, rfl, rfl⟩ | exact ⟨rfl, rfl, rfl, rfl⟩) ((k3 w' h.r.1).mono ?_))
      rintro e y ⟨u, rfl, hu, kz⟩
      exact ⟨_, rfl, _, rfl, RK.step h.r hVV kz hu⟩
    | 20, hT =>
      obtain ⟨rfl, rfl⟩ := Prod.mk.inj (Option.some.inj (show some ((some 39 : Option Nat), (.inl (.bool true) : Value ⊕ Nat)) = some (d, x) from hT))
      obtain ⟨u2, e2⟩ := h.has 2 16 rfl 60 (by kernel_rfl)
      have hv2 := h.r.2 2 u2 e2
      have q2 := x2 u2 _ hv2
      subst q2
      obtain ⟨u3, e3⟩ := h.has 3 19 rfl 60 (by kernel_rfl)
      have hv3 := h.r.2 3 u3 e3
      have q3 := x3 u3 _ hv3
      subst q3
      exact wpOp_yes _ rfl 10 _ rfl 29 rfl rfl (h.val 10 29 _ rfl (by decide)) (v_eq4 (.tmp 35) (.tmp 38) _ _ true rfl (veval_of (h.vale 16 35 2 rfl (by decide) e2)) (veval_of (h.vale 19 38 3 rfl (by decide) e3)) (by simp) ⟨rfl, rfl⟩)
    | 21, hT =>
      obtain ⟨rfl, rfl⟩ := Prod.mk.inj (Option.some.inj (show some ((some 40 : Option Nat), (.inl (.bool true) : Value ⊕ Nat)) = some (d, x) from hT))
      exact wpOp_of _ rfl rfl (v_pickT (.tmp 29) (.tmp 39) _ _ rfl (veval_of (h.val 10 29 _ rfl (by decide))) (veval_of (h.val 20 39 _ rfl (by decide))) ⟨rfl, rfl⟩)
    | 22, hT =>
      obtain ⟨rfl, rfl⟩ := Prod.mk.inj (Option.some.inj (show some ((some 41 : Option Nat), (.inl (.bool true) : Value ⊕ Nat)) = some (d, x) from hT))
      exact wpOp_of _ rfl rfl (v_move (.tmp 40) _ rfl (veval_of (h.val 21 40 _ rfl (by decide))) ⟨rfl, rfl⟩)
    | 23, hT =>
      obtain ⟨rfl, rfl⟩ := Prod.mk.inj (Option.some.inj (show some ((some 42 : Option Nat), (.inl (vv) : Value ⊕ Nat)) = some (d, x) from hT))
      exact wpOp_yes _ rfl 22 _ rfl 41 rfl rfl (h.val 22 41 _ rfl (by decide)) (v_move (.tmp 9) _ rfl (veval_of ((h.ot 9 (by decide)).trans h9)) ⟨rfl, rfl⟩)
    | 24, hT =>
      obtain ⟨rfl, rfl⟩ := Prod.mk.inj (Option.some.inj (show some ((some 43 : Option Nat), (.inl (.pointer (some ⟨gS, 0, none⟩)) : Value ⊕ Nat)) = some (d, x) from hT))
      exact wpOp_yes _ rfl 22 _ rfl 41 rfl rfl (h.val 22 41 _ rfl (by decide)) (v_move (.tmp 0) _ rfl (veval_of ((h.ot 0 (by decide)).trans h0)) ⟨rfl, rfl⟩)
    | 25, hT =>
      obtain ⟨rfl, rfl⟩ := Prod.mk.inj (Option.some.inj (show some ((some 44 : Option Nat), (.inl (.pointer (some ⟨gS, 0, none⟩)) : Value ⊕ Nat)) = some (d, x) from hT))
      exact wpOp_yes _ rfl 22 _ rfl 41 rfl rfl (h.val 22 41 _ rfl (by decide)) (v_nil (.tmp 43) _ rfl (veval_of (h.val 24 43 _ rfl (by decide))) ⟨rfl, rfl⟩)
    | 26, hT =>
      obtain ⟨rfl, rfl⟩ := Prod.mk.inj (Option.some.inj (show some ((some 45 : Option Nat), (.inl (.pointer (some ⟨gS, 10, none⟩)) : Value ⊕ Nat)) = some (d, x) from hT))
      exact wpOp_yes _ rfl 22 _ rfl 41 rfl rfl (h.val 22 41 _ rfl (by decide)) (v_g52 (.tmp 44) 7 _ 10 rfl (by decide) (veval_of (h.val 25 44 _ rfl (by decide))) ⟨rfl, rfl⟩)
    | 27, hT =>
      obtain ⟨rfl, rfl⟩ := Prod.mk.inj (Option.some.inj (show some ((some 46 : Option Nat), (.inl (.int .i64 ((b10 : Nat) : Int)) : Value ⊕ Nat)) = some (d, x) from hT))
      exact wpOp_yes _ rfl 22 _ rfl 41 rfl rfl (h.val 22 41 _ rfl (by decide)) (v_load46 (.tmp 45) _ _ _ rfl (veval_of (h.val 26 45 _ rfl (by decide))) (h.r.1.cell m15) ⟨rfl, rfl⟩)
    | 28, hT =>
      obtain ⟨rfl, rfl⟩ := Prod.mk.inj (Option.some.inj (show some ((some 47 : Option Nat), (.inr 4 : Value ⊕ Nat)) = some (d, x) from hT))
      refine wpOp_yes _ rfl 22 _ rfl 41 rfl rfl (h.val 22 41 _ rfl (by decide)) (v_call 42 _ _ rfl _ Try.func42 (by kernel_rfl) (by kernel_rfl) #[vv, .int .i64 ((b10 : Nat) : Int)] (by simp [veval_of (h.val 23 42 _ rfl (by decide)), veval_of (h.val 27 46 _ rfl (by decide))]; first | done | rfl | exact ⟨rfl, rfl⟩ | exact ⟨rfl, rfl, rfl⟩ | exact ⟨rfl, rfl, rfl, rfl⟩) ((k4 w' h.r.1).mono ?_))
      rintro e y ⟨u, rfl, hu, kz⟩
      exact ⟨_, rfl, _, rfl, RK.step h.r hVV kz hu⟩
    | 29, hT =>
      obtain ⟨rfl, rfl⟩ := Prod.mk.inj (Option.some.inj (show some ((some 48 : Option Nat), (.inl (.agg #[p0, p1, p2, p3, p4, p5, p6, p7, p8]) : Value ⊕ Nat)) = some (d, x) from hT))
      exact wpOp_yes _ rfl 22 _ rfl 41 rfl rfl (h.val 22 41 _ rfl (by decide)) (v_load33 (.tmp 5) _ _ _ _ _ _ _ _ _ _ rfl (veval_of ((h.ot 5 (by decide)).trans h5)) (h.r.1.cell m0) (h.r.1.cell m1) (h.r.1.cell m2) (h.r.1.cell m3) (h.r.1.cell m4) (h.r.1.cell m5) (h.r.1.cell m6) (h.r.1.cell m7) (h.r.1.cell m8) ⟨rfl, rfl⟩)
    | 30, hT =>
      obtain ⟨rfl, rfl⟩ := Prod.mk.inj (Option.some.inj (show some ((some 49 : Option Nat), (.inl (.agg #[s0, s1]) : Value ⊕ Nat)) = some (d, x) from hT))
      exact wpOp_yes _ rfl 22 _ rfl 41 rfl rfl (h.val 22 41 _ rfl (by decide)) (v_load37 (.tmp 6) _ _ _ _ rfl (veval_of ((h.ot 6 (by decide)).trans h6)) (h.r.1.cell m9) (h.r.1.cell m10) ⟨rfl, rfl⟩)
    | 31, hT =>
      obtain ⟨rfl, rfl⟩ := Prod.mk.inj (Option.some.inj (show some ((some 50 : Option Nat), (.inl (.agg #[t0, t1]) : Value ⊕ Nat)) = some (d, x) from hT))
      exact wpOp_yes _ rfl 22 _ rfl 41 rfl rfl (h.val 22 41 _ rfl (by decide)) (v_load37 (.tmp 7) _ _ _ _ rfl (veval_of ((h.ot 7 (by decide)).trans h7)) (h.r.1.cell m11) (h.r.1.cell m12) ⟨rfl, rfl⟩)
    | 32, hT =>
      obtain ⟨rfl, rfl⟩ := Prod.mk.inj (Option.some.inj (show some ((some 51 : Option Nat), (.inr 5 : Value ⊕ Nat)) = some (d, x) from hT))
      refine wpOp_yes _ rfl 22 _ rfl 41 rfl rfl (h.val 22 41 _ rfl (by decide)) (v_call 45 _ _ rfl _ Try.func45 (by kernel_rfl) (by kernel_rfl) #[.agg #[p0, p1, p2, p3, p4, p5, p6, p7, p8], .agg #[s0, s1], .agg #[t0, t1]] (by simp [veval_of (h.val 29 48 _ rfl (by decide)), veval_of (h.val 30 49 _ rfl (by decide)), veval_of (h.val 31 50 _ rfl (by decide))]; first | done | rfl | exact ⟨rfl, rfl⟩ | exact ⟨rfl, rfl, rfl⟩ | exact ⟨rfl, rfl, rfl, rfl⟩) ((k5 w' h.r.1).mono ?_))
      rintro e y ⟨u, rfl, hu, kz⟩
      exact ⟨_, rfl, _, rfl, RK.step h.r hVV kz hu⟩
    | 33, hT =>
      obtain ⟨rfl, rfl⟩ := Prod.mk.inj (Option.some.inj (show some ((some 52 : Option Nat), (.inl (.bool true) : Value ⊕ Nat)) = some (d, x) from hT))
      obtain ⟨u4, e4⟩ := h.has 4 28 rfl 60 (by kernel_rfl)
      have hv4 := h.r.2 4 u4 e4
      have q4 := x4 u4 _ hv4
      subst q4
      obtain ⟨u5, e5⟩ := h.has 5 32 rfl 60 (by kernel_rfl)
      have hv5 := h.r.2 5 u5 e5
      have q5 := x5 u5 _ hv5
      subst q5
      exact wpOp_yes _ rfl 22 _ rfl 41 rfl rfl (h.val 22 41 _ rfl (by decide)) (v_eq4 (.tmp 47) (.tmp 51) _ _ true rfl (veval_of (h.vale 28 47 4 rfl (by decide) e4)) (veval_of (h.vale 32 51 5 rfl (by decide) e5)) (by simp) ⟨rfl, rfl⟩)
    | 34, hT =>
      obtain ⟨rfl, rfl⟩ := Prod.mk.inj (Option.some.inj (show some ((some 53 : Option Nat), (.inl (.bool true) : Value ⊕ Nat)) = some (d, x) from hT))
      exact wpOp_of _ rfl rfl (v_pickT (.tmp 41) (.tmp 52) _ _ rfl (veval_of (h.val 22 41 _ rfl (by decide))) (veval_of (h.val 33 52 _ rfl (by decide))) ⟨rfl, rfl⟩)
    | 35, hT =>
      obtain ⟨rfl, rfl⟩ := Prod.mk.inj (Option.some.inj (show some ((some 54 : Option Nat), (.inl (.bool true) : Value ⊕ Nat)) = some (d, x) from hT))
      exact wpOp_of _ rfl rfl (v_move (.tmp 53) _ rfl (veval_of (h.val 34 53 _ rfl (by decide))) ⟨rfl, rfl⟩)
    | 36, hT =>
      obtain ⟨rfl, rfl⟩ := Prod.mk.inj (Option.some.inj (show some ((some 55 : Option Nat), (.inl (vv) : Value ⊕ Nat)) = some (d, x) from hT))
      exact wpOp_yes _ rfl 35 _ rfl 54 rfl rfl (h.val 35 54 _ rfl (by decide)) (v_move (.tmp 9) _ rfl (veval_of ((h.ot 9 (by decide)).trans h9)) ⟨rfl, rfl⟩)
    | 37, hT =>
      obtain ⟨rfl, rfl⟩ := Prod.mk.inj (Option.some.inj (show some ((some 56 : Option Nat), (.inl (.pointer (some ⟨gS, 0, none⟩)) : Value ⊕ Nat)) = some (d, x) from hT))
      exact wpOp_yes _ rfl 35 _ rfl 54 rfl rfl (h.val 35 54 _ rfl (by decide)) (v_move (.tmp 0) _ rfl (veval_of ((h.ot 0 (by decide)).trans h0)) ⟨rfl, rfl⟩)
    | 38, hT =>
      obtain ⟨rfl, rfl⟩ := Prod.mk.inj (Option.some.inj (show some ((some 57 : Option Nat), (.inl (.pointer (some ⟨gS, 0, none⟩)) : Value ⊕ Nat)) = some (d, x) from hT))
      exact wpOp_yes _ rfl 35 _ rfl 54 rfl rfl (h.val 35 54 _ rfl (by decide)) (v_nil (.tmp 56) _ rfl (veval_of (h.val 37 56 _ rfl (by decide))) ⟨rfl, rfl⟩)
    | 39, hT =>
      obtain ⟨rfl, rfl⟩ := Prod.mk.inj (Option.some.inj (show some ((some 58 : Option Nat), (.inl (.pointer (some ⟨gS, 11, none⟩)) : Value ⊕ Nat)) = some (d, x) from hT))
      exact wpOp_yes _ rfl 35 _ rfl 54 rfl rfl (h.val 35 54 _ rfl (by decide)) (v_g52 (.tmp 57) 8 _ 11 rfl (by decide) (veval_of (h.val 38 57 _ rfl (by decide))) ⟨rfl, rfl⟩)
    | 40, hT =>
      obtain ⟨rfl, rfl⟩ := Prod.mk.inj (Option.some.inj (show some ((some 59 : Option Nat), (.inl (.int .i64 ((b11 : Nat) : Int)) : Value ⊕ Nat)) = some (d, x) from hT))
      exact wpOp_yes _ rfl 35 _ rfl 54 rfl rfl (h.val 35 54 _ rfl (by decide)) (v_load46 (.tmp 58) _ _ _ rfl (veval_of (h.val 39 58 _ rfl (by decide))) (h.r.1.cell m16) ⟨rfl, rfl⟩)
    | 41, hT =>
      obtain ⟨rfl, rfl⟩ := Prod.mk.inj (Option.some.inj (show some ((some 60 : Option Nat), (.inr 6 : Value ⊕ Nat)) = some (d, x) from hT))
      refine wpOp_yes _ rfl 35 _ rfl 54 rfl rfl (h.val 35 54 _ rfl (by decide)) (v_call 42 _ _ rfl _ Try.func42 (by kernel_rfl) (by kernel_rfl) #[vv, .int .i64 ((b11 : Nat) : Int)] (by simp [veval_of (h.val 36 55 _ rfl (by decide)), veval_of (h.val 40 59 _ rfl (by decide))]; first | done | rfl | exact ⟨rfl, rfl⟩ | exact ⟨rfl, rfl, rfl⟩ | exact ⟨rfl, rfl, rfl, rfl⟩) ((k6 w' h.r.1).mono ?_))
      rintro e y ⟨u, rfl, hu, kz⟩
      exact ⟨_, rfl, _, rfl, RK.step h.r hVV kz hu⟩
    | 42, hT =>
      obtain ⟨rfl, rfl⟩ := Prod.mk.inj (Option.some.inj (show some ((some 61 : Option Nat), (.inl (.agg #[p0, p1, p2, p3, p4, p5, p6, p7, p8]) : Value ⊕ Nat)) = some (d, x) from hT))
      exact wpOp_yes _ rfl 35 _ rfl 54 rfl rfl (h.val 35 54 _ rfl (by decide)) (v_load33 (.tmp 5) _ _ _ _ _ _ _ _ _ _ rfl (veval_of ((h.ot 5 (by decide)).trans h5)) (h.r.1.cell m0) (h.r.1.cell m1) (h.r.1.cell m2) (h.r.1.cell m3) (h.r.1.cell m4) (h.r.1.cell m5) (h.r.1.cell m6) (h.r.1.cell m7) (h.r.1.cell m8) ⟨rfl, rfl⟩)
    | 43, hT =>
      obtain ⟨rfl, rfl⟩ := Prod.mk.inj (Option.some.inj (show some ((some 62 : Option Nat), (.inl (.agg #[s0, s1]) : Value ⊕ Nat)) = some (d, x) from hT))
      exact wpOp_yes _ rfl 35 _ rfl 54 rfl rfl (h.val 35 54 _ rfl (by decide)) (v_load37 (.tmp 6) _ _ _ _ rfl (veval_of ((h.ot 6 (by decide)).trans h6)) (h.r.1.cell m9) (h.r.1.cell m10) ⟨rfl, rfl⟩)
    | 44, hT =>
      obtain ⟨rfl, rfl⟩ := Prod.mk.inj (Option.some.inj (show some ((some 63 : Option Nat), (.inr 7 : Value ⊕ Nat)) = some (d, x) from hT))
      refine wpOp_yes _ rfl 35 _ rfl 54 rfl rfl (h.val 35 54 _ rfl (by decide)) (v_call 46 _ _ rfl _ Try.func46 (by kernel_rfl) (by kernel_rfl) #[.agg #[p0, p1, p2, p3, p4, p5, p6, p7, p8], .agg #[s0, s1]] (by simp [veval_of (h.val 42 61 _ rfl (by decide)), veval_of (h.val 43 62 _ rfl (by decide))]; first | done | rfl | exact ⟨rfl, rfl⟩ | exact ⟨rfl, rfl, rfl⟩ | exact ⟨rfl, rfl, rfl, rfl⟩) ((k7 w' h.r.1).mono ?_))
      rintro e y ⟨u, rfl, hu, kz⟩
      exact ⟨_, rfl, _, rfl, RK.step h.r hVV kz hu⟩
    | 45, hT =>
      obtain ⟨rfl, rfl⟩ := Prod.mk.inj (Option.some.inj (show some ((some 64 : Option Nat), (.inl (.bool true) : Value ⊕ Nat)) = some (d, x) from hT))
      obtain ⟨u6, e6⟩ := h.has 6 41 rfl 60 (by kernel_rfl)
      have hv6 := h.r.2 6 u6 e6
      have q6 := x6 u6 _ hv6
      subst q6
      obtain ⟨u7, e7⟩ := h.has 7 44 rfl 60 (by kernel_rfl)
      have hv7 := h.r.2 7 u7 e7
      have q7 := x7 u7 _ hv7
      subst q7
      exact wpOp_yes _ rfl 35 _ rfl 54 rfl rfl (h.val 35 54 _ rfl (by decide)) (v_eq4 (.tmp 60) (.tmp 63) _ _ true rfl (veval_of (h.vale 41 60 6 rfl (by decide) e6)) (veval_of (h.vale 44 63 7 rfl (by decide) e7)) (by simp) ⟨rfl, rfl⟩)
    | 46, hT =>
      obtain ⟨rfl, rfl⟩ := Prod.mk.inj (Option.some.inj (show some ((some 65 : Option Nat), (.inl (.bool true) : Value ⊕ Nat)) = some (d, x) from hT))
      exact wpOp_of _ rfl rfl (v_pickT (.tmp 54) (.tmp 64) _ _ rfl (veval_of (h.val 35 54 _ rfl (by decide))) (veval_of (h.val 45 64 _ rfl (by decide))) ⟨rfl, rfl⟩)
    | 47, hT =>
      obtain ⟨rfl, rfl⟩ := Prod.mk.inj (Option.some.inj (show some ((some 66 : Option Nat), (.inl (.bool true) : Value ⊕ Nat)) = some (d, x) from hT))
      exact wpOp_of _ rfl rfl (v_move (.tmp 65) _ rfl (veval_of (h.val 46 65 _ rfl (by decide))) ⟨rfl, rfl⟩)
    | 48, hT =>
      obtain ⟨rfl, rfl⟩ := Prod.mk.inj (Option.some.inj (show some ((some 67 : Option Nat), (.inl (.agg #[p0, p1, p2, p3, p4, p5, p6, p7, p8]) : Value ⊕ Nat)) = some (d, x) from hT))
      exact wpOp_yes _ rfl 47 _ rfl 66 rfl rfl (h.val 47 66 _ rfl (by decide)) (v_load33 (.tmp 5) _ _ _ _ _ _ _ _ _ _ rfl (veval_of ((h.ot 5 (by decide)).trans h5)) (h.r.1.cell m0) (h.r.1.cell m1) (h.r.1.cell m2) (h.r.1.cell m3) (h.r.1.cell m4) (h.r.1.cell m5) (h.r.1.cell m6) (h.r.1.cell m7) (h.r.1.cell m8) ⟨rfl, rfl⟩)
    | 49, hT =>
      obtain ⟨rfl, rfl⟩ := Prod.mk.inj (Option.some.inj (show some ((some 68 : Option Nat), (.inl (.pointer (some ⟨gS, 0, none⟩)) : Value ⊕ Nat)) = some (d, x) from hT))
      exact wpOp_yes _ rfl 47 _ rfl 66 rfl rfl (h.val 47 66 _ rfl (by decide)) (v_move (.tmp 0) _ rfl (veval_of ((h.ot 0 (by decide)).trans h0)) ⟨rfl, rfl⟩)
    | 50, hT =>
      obtain ⟨rfl, rfl⟩ := Prod.mk.inj (Option.some.inj (show some ((some 69 : Option Nat), (.inl (.pointer (some ⟨gS, 0, none⟩)) : Value ⊕ Nat)) = some (d, x) from hT))
      exact wpOp_yes _ rfl 47 _ rfl 66 rfl rfl (h.val 47 66 _ rfl (by decide)) (v_nil (.tmp 68) _ rfl (veval_of (h.val 49 68 _ rfl (by decide))) ⟨rfl, rfl⟩)
    | 51, hT =>
      obtain ⟨rfl, rfl⟩ := Prod.mk.inj (Option.some.inj (show some ((some 70 : Option Nat), (.inl (.pointer (some ⟨gS, 5, none⟩)) : Value ⊕ Nat)) = some (d, x) from hT))
      exact wpOp_yes _ rfl 47 _ rfl 66 rfl rfl (h.val 47 66 _ rfl (by decide)) (v_g52 (.tmp 69) 3 _ 5 rfl (by decide) (veval_of (h.val 50 69 _ rfl (by decide))) ⟨rfl, rfl⟩)
    | 52, hT =>
      obtain ⟨rfl, rfl⟩ := Prod.mk.inj (Option.some.inj (show some ((some 71 : Option Nat), (.inl (vv) : Value ⊕ Nat)) = some (d, x) from hT))
      exact wpOp_yes _ rfl 47 _ rfl 66 rfl rfl (h.val 47 66 _ rfl (by decide)) (v_move (.tmp 9) _ rfl (veval_of ((h.ot 9 (by decide)).trans h9)) ⟨rfl, rfl⟩)
    | 53, hT =>
      obtain ⟨rfl, rfl⟩ := Prod.mk.inj (Option.some.inj (show some ((some 72 : Option Nat), (.inr 8 : Value ⊕ Nat)) = some (d, x) from hT))
      refine wpOp_yes _ rfl 47 _ rfl 66 rfl rfl (h.val 47 66 _ rfl (by decide)) (v_call 14 _ _ rfl _ Try.func14 (by kernel_rfl) (by kernel_rfl) #[.pointer (some ⟨gS, 5, none⟩), vv] (by simp [veval_of (h.val 51 70 _ rfl (by decide)), veval_of (h.val 52 71 _ rfl (by decide))]; first | done | rfl | exact ⟨rfl, rfl⟩ | exact ⟨rfl, rfl, rfl⟩ | exact ⟨rfl, rfl, rfl, rfl⟩) ((k8 w' h.r.1).mono ?_))
      rintro e y ⟨u, rfl, hu, kz⟩
      exact ⟨_, rfl, _, rfl, RK.step h.r hVV kz hu⟩
    | 54, hT =>
      obtain ⟨rfl, rfl⟩ := Prod.mk.inj (Option.some.inj (show some ((some 73 : Option Nat), (.inl (.agg #[p0, p1, p2, p3, p4, p5, p6, p7, p8]) : Value ⊕ Nat)) = some (d, x) from hT))
      exact wpOp_yes _ rfl 47 _ rfl 66 rfl rfl (h.val 47 66 _ rfl (by decide)) (v_load33 (.tmp 5) _ _ _ _ _ _ _ _ _ _ rfl (veval_of ((h.ot 5 (by decide)).trans h5)) (h.r.1.cell m0) (h.r.1.cell m1) (h.r.1.cell m2) (h.r.1.cell m3) (h.r.1.cell m4) (h.r.1.cell m5) (h.r.1.cell m6) (h.r.1.cell m7) (h.r.1.cell m8) ⟨rfl, rfl⟩)
    | 55, hT =>
      obtain ⟨rfl, rfl⟩ := Prod.mk.inj (Option.some.inj (show some ((some 74 : Option Nat), (.inl (.agg #[s0, s1]) : Value ⊕ Nat)) = some (d, x) from hT))
      exact wpOp_yes _ rfl 47 _ rfl 66 rfl rfl (h.val 47 66 _ rfl (by decide)) (v_load37 (.tmp 6) _ _ _ _ rfl (veval_of ((h.ot 6 (by decide)).trans h6)) (h.r.1.cell m9) (h.r.1.cell m10) ⟨rfl, rfl⟩)
    | 56, hT =>
      obtain ⟨rfl, rfl⟩ := Prod.mk.inj (Option.some.inj (show some ((some 75 : Option Nat), (.inr 9 : Value ⊕ Nat)) = some (d, x) from hT))
      refine wpOp_yes _ rfl 47 _ rfl 66 rfl rfl (h.val 47 66 _ rfl (by decide)) (v_call 48 _ _ rfl _ Try.func48 (by kernel_rfl) (by kernel_rfl) #[.agg #[p0, p1, p2, p3, p4, p5, p6, p7, p8], .agg #[s0, s1]] (by simp [veval_of (h.val 54 73 _ rfl (by decide)), veval_of (h.val 55 74 _ rfl (by decide))]; first | done | rfl | exact ⟨rfl, rfl⟩ | exact ⟨rfl, rfl, rfl⟩ | exact ⟨rfl, rfl, rfl, rfl⟩) ((k9 w' h.r.1).mono ?_))
      rintro e y ⟨u, rfl, hu, kz⟩
      exact ⟨_, rfl, _, rfl, RK.step h.r hVV kz hu⟩
    | 57, hT =>
      obtain ⟨rfl, rfl⟩ := Prod.mk.inj (Option.some.inj (show some ((some 76 : Option Nat), (.inr 10 : Value ⊕ Nat)) = some (d, x) from hT))
      obtain ⟨u8, e8⟩ := h.has 8 53 rfl 60 (by kernel_rfl)
      have hv8 := h.r.2 8 u8 e8
      obtain ⟨u9, e9⟩ := h.has 9 56 rfl 60 (by kernel_rfl)
      have hv9 := h.r.2 9 u9 e9
      refine wpOp_yes _ rfl 47 _ rfl 66 rfl rfl (h.val 47 66 _ rfl (by decide)) (v_call 47 _ _ rfl _ Try.func47 (by kernel_rfl) (by kernel_rfl) #[.agg #[p0, p1, p2, p3, p4, p5, p6, p7, p8], u8, u9] (by simp [veval_of (h.val 48 67 _ rfl (by decide)), veval_of (h.vale 53 72 8 rfl (by decide) e8), veval_of (h.vale 56 75 9 rfl (by decide) e9)]; first | done | rfl | exact ⟨rfl, rfl⟩ | exact ⟨rfl, rfl, rfl⟩ | exact ⟨rfl, rfl, rfl, rfl⟩) ((k10 w' u8 u9 h.r.1 hv8 hv9).mono ?_))
      rintro e y ⟨u, rfl, hu, kz⟩
      exact ⟨_, rfl, _, rfl, RK.step h.r hVV kz hu⟩
    | 58, hT =>
      obtain ⟨rfl, rfl⟩ := Prod.mk.inj (Option.some.inj (show some ((some 77 : Option Nat), (.inl (.bool true) : Value ⊕ Nat)) = some (d, x) from hT))
      obtain ⟨u10, e10⟩ := h.has 10 57 rfl 60 (by kernel_rfl)
      have hv10 := h.r.2 10 u10 e10
      have q10 := x10 u10 _ hv10
      subst q10
      exact wpOp_of _ rfl rfl (v_pickT (.tmp 66) (.tmp 76) _ _ rfl (veval_of (h.val 47 66 _ rfl (by decide))) (veval_of (h.vale 57 76 10 rfl (by decide) e10)) ⟨rfl, rfl⟩)
    | 59, hT =>
      obtain ⟨rfl, rfl⟩ := Prod.mk.inj (Option.some.inj (show some ((some 8 : Option Nat), (.inl (.bool true) : Value ⊕ Nat)) = some (d, x) from hT))
      exact wpOp_of _ rfl rfl (v_asg (.tmp 77) _ rfl (veval_of (h.val 58 77 _ rfl (by decide))) ⟨rfl, rfl⟩)
    | i + 60, hT => simp [ag2T] at hT
  · intro vs w' hv hR
    exact hend vs w' hR.2 (fun k hk => hv k (by simpa using hk)) hR.1
end Go.Proofs.Qxb6500772a
