/- blastm: regions of Init and Trans. -/
import Derived.Test.Qxb6500772aKa
namespace Go.Proofs.Qxb6500772a
open Go Go.RowKit Go.Qm
set_option linter.unusedVariables false
set_option linter.unusedSimpArgs false
def mi : Array Oper := #[{ dst := some 5, op := Go.Op.load 33 (Go.Operand.tmp 2), type := 33, pos := "blastm.go:31", after := #[], guard := none }, { dst := some 6, op := Go.Op.load 37 (Go.Operand.tmp 3), type := 37, pos := "blastm.go:31", after := #[], guard := none }, { dst := some 7, op := Go.Op.load 33 (Go.Operand.tmp 2), type := 33, pos := "blastm.go:31", after := #[], guard := none }, { dst := some 8, op := Go.Op.call { callee := Go.Callee.value (Go.Operand.func 18), args := #[Go.Operand.tmp 7], argTypes := #[33] }, type := 37, pos := "blastm.go:31", after := #[{ on := 2, ground := Go.Ground.data }], guard := none }, { dst := some 9, op := Go.Op.call { callee := Go.Callee.value (Go.Operand.func 47), args := #[Go.Operand.tmp 5, Go.Operand.tmp 6, Go.Operand.tmp 8], argTypes := #[33, 37, 37] }, type := 4, pos := "blastm.go:31", after := #[{ on := 0, ground := Go.Ground.data }, { on := 1, ground := Go.Ground.data }, { on := 3, ground := Go.Ground.data }, { on := 3, ground := Go.Ground.chain }], guard := none }, { dst := some 4, op := Go.Op.assign (Go.Operand.tmp 9), type := 4, pos := "blastm.go:31", after := #[{ on := 4, ground := Go.Ground.data }, { on := 4, ground := Go.Ground.chain }, { on := 0, ground := Go.Ground.phase }, { on := 1, ground := Go.Ground.phase }, { on := 2, ground := Go.Ground.phase }, { on := 3, ground := Go.Ground.phase }, { on := 4, ground := Go.Ground.phase }], guard := none }]
def miT (g2 g3 : Nat) (p0 p1 p2 p3 p4 p5 p6 p7 p8 s0 s1 : Value) (r : Bool) : List (Option Nat × (Value ⊕ Nat)) := [(some 5, .inl (.agg #[p0, p1, p2, p3, p4, p5, p6, p7, p8])), (some 6, .inl (.agg #[s0, s1])), (some 7, .inl (.agg #[p0, p1, p2, p3, p4, p5, p6, p7, p8])), (some 8, .inr 0), (some 9, .inr 1), (some 4, .inl (.bool r))]
theorem mi_chk : chk mi mi.size = true := by kernel_rfl
set_option maxRecDepth 4000 in
set_option maxHeartbeats 4000000 in
theorem mi_c {Q : Exit → Act → World → Prop} {a0 : Act} {w : World} (g2 g3 : Nat) (p0 p1 p2 p3 p4 p5 p6 p7 p8 s0 s1 : Value) (r : Bool) (hz0 : a0.tmps.size = 10) (h2 : a0.tmps[2]? = some (.pointer (some ⟨g2, 0, none⟩))) (h3 : a0.tmps[3]? = some (.pointer (some ⟨g3, 0, none⟩))) (m0 : w.drew.cell? ⟨g2, 0, none⟩ = some (p0)) (m1 : w.drew.cell? ⟨g2, 1, none⟩ = some (p1)) (m2 : w.drew.cell? ⟨g2, 2, none⟩ = some (p2)) (m3 : w.drew.cell? ⟨g2, 3, none⟩ = some (p3)) (m4 : w.drew.cell? ⟨g2, 4, none⟩ = some (p4)) (m5 : w.drew.cell? ⟨g2, 5, none⟩ = some (p5)) (m6 : w.drew.cell? ⟨g2, 6, none⟩ = some (p6)) (m7 : w.drew.cell? ⟨g2, 7, none⟩ = some (p7)) (m8 : w.drew.cell? ⟨g2, 8, none⟩ = some (p8)) (m9 : w.drew.cell? ⟨g3, 0, none⟩ = some (s0)) (m10 : w.drew.cell? ⟨g3, 1, none⟩ = some (s1))  (VV : Nat → Value → World → Prop) (hVV : ∀ k u Z Z', Keep Z Z' → VV k u Z → VV k u Z') (k0 : ∀ (Z : World), Keep w.drew Z → Calls Try.prog 18 #[.agg #[p0, p1, p2, p3, p4, p5, p6, p7, p8]] Z fun e w' => ∃ u, e = .returned u ∧ VV 0 u w' ∧ Keep Z w') (k1 : ∀ (Z : World) (u0 : Value), Keep w.drew Z → VV 0 u0 Z → Calls Try.prog 47 #[.agg #[p0, p1, p2, p3, p4, p5, p6, p7, p8], .agg #[s0, s1], u0] Z fun e w' => ∃ u, e = .returned u ∧ VV 1 u w' ∧ Keep Z w') (x1 : ∀ u Z, VV 1 u Z → u = .bool r)
    (hend : ∀ vs w', (∀ k u, vs k = some u → VV k u w') → (∀ k < 2, ∃ u, vs k = some u) → Keep w.drew w' → Q .normal (lay a0 (Lmx (miT g2 g3 p0 p1 p2 p3 p4 p5 p6 p7 p8 s0 s1 r) vs)) w') :
    (Code.region 1 mi true).wp Try.prog Q a0 w := by
  refine wp_region_mx (by rfl) (miT g2 g3 p0 p1 p2 p3 p4 p5 p6 p7 p8 s0 s1 r) [5, 6, 7, 8, 9, 4] [none, none, none, some 0, some 1, none] [3, 4] rfl rfl rfl mi_chk (by decide) (by decide) (by
    intro d hd
    rw [hz0]
    have : ∀ y ∈ [5, 6, 7, 8, 9, 4], y < 10 := by decide
    exact this _ hd) (RK w.drew VV) RK.start ?_ ?_
  · intro i d x hT listed vs a w' h
    match i, hT with
    | 0, hT =>
      obtain ⟨rfl, rfl⟩ := Prod.mk.inj (Option.some.inj (show some ((some 5 : Option Nat), (.inl (.agg #[p0, p1, p2, p3, p4, p5, p6, p7, p8]) : Value ⊕ Nat)) = some (d, x) from hT))
      exact wpOp_of _ rfl rfl (v_load33 (.tmp 2) _ _ _ _ _ _ _ _ _ _ rfl (veval_of ((h.ot 2 (by decide)).trans h2)) (h.r.1.cell m0) (h.r.1.cell m1) (h.r.1.cell m2) (h.r.1.cell m3) (h.r.1.cell m4) (h.r.1.cell m5) (h.r.1.cell m6) (h.r.1.cell m7) (h.r.1.cell m8) ⟨rfl, rfl⟩)
    | 1, hT =>
      obtain ⟨rfl, rfl⟩ := Prod.mk.inj (Option.some.inj (show some ((some 6 : Option Nat), (.inl (.agg #[s0, s1]) : Value ⊕ Nat)) = some (d, x) from hT))
      exact wpOp_of _ rfl rfl (v_load37 (.tmp 3) _ _ _ _ rfl (veval_of ((h.ot 3 (by decide)).trans h3)) (h.r.1.cell m9) (h.r.1.cell m10) ⟨rfl, rfl⟩)
    | 2, hT =>
      obtain ⟨rfl, rfl⟩ := Prod.mk.inj (Option.some.inj (show some ((some 7 : Option Nat), (.inl (.agg #[p0, p1, p2, p3, p4, p5, p6, p7, p8]) : Value ⊕ Nat)) = some (d, x) from hT))
      exact wpOp_of _ rfl rfl (v_load33 (.tmp 2) _ _ _ _ _ _ _ _ _ _ rfl (veval_of ((h.ot 2 (by decide)).trans h2)) (h.r.1.cell m0) (h.r.1.cell m1) (h.r.1.cell m2) (h.r.1.cell m3) (h.r.1.cell m4) (h.r.1.cell m5) (h.r.1.cell m6) (h.r.1.cell m7) (h.r.1.cell m8) ⟨rfl, rfl⟩)
    | 3, hT =>
      obtain ⟨rfl, rfl⟩ := Prod.mk.inj (Option.some.inj (show some ((some 8 : Option Nat), (.inr 0 : Value ⊕ Nat)) = some (d, x) from hT))
      refine wpOp_of _ rfl rfl (v_call 18 _ _ rfl _ Try.func18 (by kernel_rfl) (by kernel_rfl) #[.agg #[p0, p1, p2, p3, p4, p5, p6, p7, p8]] (by simp [veval_of (h.val 2 7 _ rfl (by decide))]; first | done | rfl | exact ⟨rfl, rfl⟩ | exact ⟨rfl, rfl, rfl⟩ | exact ⟨rfl, rfl, rfl, rfl⟩) ((k0 w' h.r.1).mono ?_))
      rintro e y ⟨u, rfl, hu, kz⟩
      exact ⟨_, rfl, _, rfl, RK.step h.r hVV kz hu⟩
    | 4, hT =>
      obtain ⟨rfl, rfl⟩ := Prod.mk.inj (Option.some.inj (show some ((some 9 : Option Nat), (.inr 1 : Value ⊕ Nat)) = some (d, x) from hT))
      obtain ⟨u0, e0⟩ := h.has 0 3 rfl 6 (by kernel_rfl)
      have hv0 := h.r.2 0 u0 e0
      refine wpOp_of _ rfl rfl (v_call 47 _ _ rfl _ Try.func47 (by kernel_rfl) (by kernel_rfl) #[.agg #[p0, p1, p2, p3, p4, p5, p6, p7, p8], .agg #[s0, s1], u0] (by simp [veval_of (h.val 0 5 _ rfl (by decide)), veval_of (h.val 1 6 _ rfl (by decide)), veval_of (h.vale 3 8 0 rfl (by decide) e0)]; first | done | rfl | exact ⟨rfl, rfl⟩ | exact ⟨rfl, rfl, rfl⟩ | exact ⟨rfl, rfl, rfl, rfl⟩) ((k1 w' u0 h.r.1 hv0).mono ?_))
      rintro e y ⟨u, rfl, hu, kz⟩
      exact ⟨_, rfl, _, rfl, RK.step h.r hVV kz hu⟩
    | 5, hT =>
      obtain ⟨rfl, rfl⟩ := Prod.mk.inj (Option.some.inj (show some ((some 4 : Option Nat), (.inl (.bool r) : Value ⊕ Nat)) = some (d, x) from hT))
      obtain ⟨u1, e1⟩ := h.has 1 4 rfl 6 (by kernel_rfl)
      have hv1 := h.r.2 1 u1 e1
      have q1 := x1 u1 _ hv1
      subst q1
      exact wpOp_of _ rfl rfl (v_asg (.tmp 9) _ rfl (veval_of (h.vale 4 9 1 rfl (by decide) e1)) ⟨rfl, rfl⟩)
    | i + 6, hT => simp [miT] at hT
  · intro vs w' hv hR
    exact hend vs w' hR.2 (fun k hk => hv k (by simpa using hk)) hR.1
def mt : Array Oper := #[{ dst := some 7, op := Go.Op.load 33 (Go.Operand.tmp 3), type := 33, pos := "blastm.go:40", after := #[], guard := none }, { dst := some 8, op := Go.Op.load 37 (Go.Operand.tmp 4), type := 37, pos := "blastm.go:40", after := #[], guard := none }, { dst := some 9, op := Go.Op.call { callee := Go.Callee.value (Go.Operand.func 83), args := #[Go.Operand.tmp 7, Go.Operand.tmp 8], argTypes := #[33, 37] }, type := 4, pos := "blastm.go:40", after := #[{ on := 0, ground := Go.Ground.data }, { on := 1, ground := Go.Ground.data }], guard := none }, { dst := some 10, op := Go.Op.move (Go.Operand.tmp 9), type := 4, pos := "blastm.go:40", after := #[{ on := 2, ground := Go.Ground.data }, { on := 2, ground := Go.Ground.chain }], guard := none }, { dst := some 11, op := Go.Op.load 33 (Go.Operand.tmp 3), type := 33, pos := "blastm.go:40", after := #[{ on := 3, ground := Go.Ground.guard }], guard := some (3, true) }, { dst := some 12, op := Go.Op.load 33 (Go.Operand.tmp 3), type := 33, pos := "blastm.go:40", after := #[{ on := 3, ground := Go.Ground.guard }], guard := some (3, true) }, { dst := some 13, op := Go.Op.load 37 (Go.Operand.tmp 4), type := 37, pos := "blastm.go:40", after := #[{ on := 3, ground := Go.Ground.guard }], guard := some (3, true) }, { dst := some 14, op := Go.Op.call { callee := Go.Callee.value (Go.Operand.func 20), args := #[Go.Operand.tmp 12, Go.Operand.tmp 13], argTypes := #[33, 37] }, type := 37, pos := "blastm.go:40", after := #[{ on := 5, ground := Go.Ground.data }, { on := 6, ground := Go.Ground.data }, { on := 3, ground := Go.Ground.chain }, { on := 3, ground := Go.Ground.guard }], guard := some (3, true) }, { dst := some 15, op := Go.Op.load 37 (Go.Operand.tmp 5), type := 37, pos := "blastm.go:40", after := #[{ on := 3, ground := Go.Ground.guard }], guard := some (3, true) }, { dst := some 16, op := Go.Op.call { callee := Go.Callee.value (Go.Operand.func 47), args := #[Go.Operand.tmp 11, Go.Operand.tmp 14, Go.Operand.tmp 15], argTypes := #[33, 37, 37] }, type := 4, pos := "blastm.go:40", after := #[{ on := 4, ground := Go.Ground.data }, { on := 7, ground := Go.Ground.data }, { on := 8, ground := Go.Ground.data }, { on := 7, ground := Go.Ground.chain }, { on := 3, ground := Go.Ground.guard }], guard := some (3, true) }, { dst := some 17, op := Go.Op.pick (Go.Operand.tmp 10) (Go.Operand.tmp 16) (Go.Operand.const (Go.Value.bool false)), type := 4, pos := "blastm.go:40", after := #[{ on := 3, ground := Go.Ground.data }, { on := 9, ground := Go.Ground.data }], guard := none }, { dst := some 6, op := Go.Op.assign (Go.Operand.tmp 17), type := 4, pos := "blastm.go:40", after := #[{ on := 10, ground := Go.Ground.data }, { on := 9, ground := Go.Ground.chain }, { on := 0, ground := Go.Ground.phase }, { on := 1, ground := Go.Ground.phase }, { on := 2, ground := Go.Ground.phase }, { on := 3, ground := Go.Ground.phase }, { on := 4, ground := Go.Ground.phase }, { on := 5, ground := Go.Ground.phase }, { on := 6, ground := Go.Ground.phase }, { on := 7, ground := Go.Ground.phase }, { on := 8, ground := Go.Ground.phase }, { on := 9, ground := Go.Ground.phase }, { on := 10, ground := Go.Ground.phase }], guard := none }]
def mtT (g3 g4 g5 : Nat) (p0 p1 p2 p3 p4 p5 p6 p7 p8 s0 s1 t0 t1 : Value) (r : Bool) : List (Option Nat × (Value ⊕ Nat)) := [(some 7, .inl (.agg #[p0, p1, p2, p3, p4, p5, p6, p7, p8])), (some 8, .inl (.agg #[s0, s1])), (some 9, .inr 0), (some 10, .inl (.bool true)), (some 11, .inl (.agg #[p0, p1, p2, p3, p4, p5, p6, p7, p8])), (some 12, .inl (.agg #[p0, p1, p2, p3, p4, p5, p6, p7, p8])), (some 13, .inl (.agg #[s0, s1])), (some 14, .inr 1), (some 15, .inl (.agg #[t0, t1])), (some 16, .inr 2), (some 17, .inl (.bool r)), (some 6, .inl (.bool r))]
theorem mt_chk : chk mt mt.size = true := by kernel_rfl
set_option maxRecDepth 4000 in
set_option maxHeartbeats 4000000 in
theorem mt_c {Q : Exit → Act → World → Prop} {a0 : Act} {w : World} (g3 g4 g5 : Nat) (p0 p1 p2 p3 p4 p5 p6 p7 p8 s0 s1 t0 t1 : Value) (r : Bool) (hz0 : a0.tmps.size = 18) (h3 : a0.tmps[3]? = some (.pointer (some ⟨g3, 0, none⟩))) (h4 : a0.tmps[4]? = some (.pointer (some ⟨g4, 0, none⟩))) (h5 : a0.tmps[5]? = some (.pointer (some ⟨g5, 0, none⟩))) (m0 : w.drew.cell? ⟨g3, 0, none⟩ = some (p0)) (m1 : w.drew.cell? ⟨g3, 1, none⟩ = some (p1)) (m2 : w.drew.cell? ⟨g3, 2, none⟩ = some (p2)) (m3 : w.drew.cell? ⟨g3, 3, none⟩ = some (p3)) (m4 : w.drew.cell? ⟨g3, 4, none⟩ = some (p4)) (m5 : w.drew.cell? ⟨g3, 5, none⟩ = some (p5)) (m6 : w.drew.cell? ⟨g3, 6, none⟩ = some (p6)) (m7 : w.drew.cell? ⟨g3, 7, none⟩ = some (p7)) (m8 : w.drew.cell? ⟨g3, 8, none⟩ = some (p8)) (m9 : w.drew.cell? ⟨g4, 0, none⟩ = some (s0)) (m10 : w.drew.cell? ⟨g4, 1, none⟩ = some (s1)) (m11 : w.drew.cell? ⟨g5, 0, none⟩ = some (t0)) (m12 : w.drew.cell? ⟨g5, 1, none⟩ = some (t1))  (VV : Nat → Value → World → Prop) (hVV : ∀ k u Z Z', Keep Z Z' → VV k u Z → VV k u Z') (k0 : ∀ (Z : World), Keep w.drew Z → Calls Try.prog 83 #[.agg #[p0, p1, p2, p3, p4, p5, p6, p7, p8], .agg #[s0, s1]] Z fun e w' => ∃ u, e = .returned u ∧ VV 0 u w' ∧ Keep Z w') (x0 : ∀ u Z, VV 0 u Z → u = .bool true) (k1 : ∀ (Z : World), Keep w.drew Z → Calls Try.prog 20 #[.agg #[p0, p1, p2, p3, p4, p5, p6, p7, p8], .agg #[s0, s1]] Z fun e w' => ∃ u, e = .returned u ∧ VV 1 u w' ∧ Keep Z w') (k2 : ∀ (Z : World) (u1 : Value), Keep w.drew Z → VV 1 u1 Z → Calls Try.prog 47 #[.agg #[p0, p1, p2, p3, p4, p5, p6, p7, p8], u1, .agg #[t0, t1]] Z fun e w' => ∃ u, e = .returned u ∧ VV 2 u w' ∧ Keep Z w') (x2 : ∀ u Z, VV 2 u Z → u = .bool r)
    (hend : ∀ vs w', (∀ k u, vs k = some u → VV k u w') → (∀ k < 3, ∃ u, vs k = some u) → Keep w.drew w' → Q .normal (lay a0 (Lmx (mtT g3 g4 g5 p0 p1 p2 p3 p4 p5 p6 p7 p8 s0 s1 t0 t1 r) vs)) w') :
    (Code.region 1 mt true).wp Try.prog Q a0 w := by
  refine wp_region_mx (by rfl) (mtT g3 g4 g5 p0 p1 p2 p3 p4 p5 p6 p7 p8 s0 s1 t0 t1 r) [7, 8, 9, 10, 11, 12, 13, 14, 15, 16, 17, 6] [none, none, some 0, none, none, none, none, some 1, none, some 2, none, none] [2, 7, 9] rfl rfl rfl mt_chk (by decide) (by decide) (by
    intro d hd
    rw [hz0]
    have : ∀ y ∈ [7, 8, 9, 10, 11, 12, 13, 14, 15, 16, 17, 6], y < 18 := by decide
    exact this _ hd) (RK w.drew VV) RK.start ?_ ?_
  · intro i d x hT listed vs a w' h
    match i, hT with
    | 0, hT =>
      obtain ⟨rfl, rfl⟩ := Prod.mk.inj (Option.some.inj (show some ((some 7 : Option Nat), (.inl (.agg #[p0, p1, p2, p3, p4, p5, p6, p7, p8]) : Value ⊕ Nat)) = some (d, x) from hT))
      exact wpOp_of _ rfl rfl (v_load33 (.tmp 3) _ _ _ _ _ _ _ _ _ _ rfl (veval_of ((h.ot 3 (by decide)).trans h3)) (h.r.1.cell m0) (h.r.1.cell m1) (h.r.1.cell m2) (h.r.1.cell m3) (h.r.1.cell m4) (h.r.1.cell m5) (h.r.1.cell m6) (h.r.1.cell m7) (h.r.1.cell m8) ⟨rfl, rfl⟩)
    | 1, hT =>
      obtain ⟨rfl, rfl⟩ := Prod.mk.inj (Option.some.inj (show some ((some 8 : Option Nat), (.inl (.agg #[s0, s1]) : Value ⊕ Nat)) = some (d, x) from hT))
      exact wpOp_of _ rfl rfl (v_load37 (.tmp 4) _ _ _ _ rfl (veval_of ((h.ot 4 (by decide)).trans h4)) (h.r.1.cell m9) (h.r.1.cell m10) ⟨rfl, rfl⟩)
    | 2, hT =>
      obtain ⟨rfl, rfl⟩ := Prod.mk.inj (Option.some.inj (show some ((some 9 : Option Nat), (.inr 0 : Value ⊕ Nat)) = some (d, x) from hT))
      refine wpOp_of _ rfl rfl (v_call 83 _ _ rfl _ Try.func83 (by kernel_rfl) (by kernel_rfl) #[.agg #[p0, p1, p2, p3, p4, p5, p6, p7, p8], .agg #[s0, s1]] (by simp [veval_of (h.val 0 7 _ rfl (by decide)), veval_of (h.val 1 8 _ rfl (by decide))]; first | done | rfl | exact ⟨rfl, rfl⟩ | exact ⟨rfl, rfl, rfl⟩ | exact ⟨rfl, rfl, rfl, rfl⟩) ((k0 w' h.r.1).mono ?_))
      rintro e y ⟨u, rfl, hu, kz⟩
      exact ⟨_, rfl, _, rfl, RK.step h.r hVV kz hu⟩
    | 3, hT =>
      obtain ⟨rfl, rfl⟩ := Prod.mk.inj (Option.some.inj (show some ((some 10 : Option Nat), (.inl (.bool true) : Value ⊕ Nat)) = some (d, x) from hT))
      obtain ⟨u0, e0⟩ := h.has 0 2 rfl 12 (by kernel_rfl)
      have hv0 := h.r.2 0 u0 e0
      have q0 := x0 u0 _ hv0
      subst q0
      exact wpOp_of _ rfl rfl (v_move (.tmp 9) _ rfl (veval_of (h.vale 2 9 0 rfl (by decide) e0)) ⟨rfl, rfl⟩)
    | 4, hT =>
      obtain ⟨rfl, rfl⟩ := Prod.mk.inj (Option.some.inj (show some ((some 11 : Option Nat), (.inl (.agg #[p0, p1, p2, p3, p4, p5, p6, p7, p8]) : Value ⊕ Nat)) = some (d, x) from hT))
      exact wpOp_yes _ rfl 3 _ rfl 10 rfl rfl (h.val 3 10 _ rfl (by decide)) (v_load33 (.tmp 3) _ _ _ _ _ _ _ _ _ _ rfl (veval_of ((h.ot 3 (by decide)).trans h3)) (h.r.1.cell m0) (h.r.1.cell m1) (h.r.1.cell m2) (h.r.1.cell m3) (h.r.1.cell m4) (h.r.1.cell m5) (h.r.1.cell m6) (h.r.1.cell m7) (h.r.1.cell m8) ⟨rfl, rfl⟩)
    | 5, hT =>
      obtain ⟨rfl, rfl⟩ := Prod.mk.inj (Option.some.inj (show some ((some 12 : Option Nat), (.inl (.agg #[p0, p1, p2, p3, p4, p5, p6, p7, p8]) : Value ⊕ Nat)) = some (d, x) from hT))
      exact wpOp_yes _ rfl 3 _ rfl 10 rfl rfl (h.val 3 10 _ rfl (by decide)) (v_load33 (.tmp 3) _ _ _ _ _ _ _ _ _ _ rfl (veval_of ((h.ot 3 (by decide)).trans h3)) (h.r.1.cell m0) (h.r.1.cell m1) (h.r.1.cell m2) (h.r.1.cell m3) (h.r.1.cell m4) (h.r.1.cell m5) (h.r.1.cell m6) (h.r.1.cell m7) (h.r.1.cell m8) ⟨rfl, rfl⟩)
    | 6, hT =>
      obtain ⟨rfl, rfl⟩ := Prod.mk.inj (Option.some.inj (show some ((some 13 : Option Nat), (.inl (.agg #[s0, s1]) : Value ⊕ Nat)) = some (d, x) from hT))
      exact wpOp_yes _ rfl 3 _ rfl 10 rfl rfl (h.val 3 10 _ rfl (by decide)) (v_load37 (.tmp 4) _ _ _ _ rfl (veval_of ((h.ot 4 (by decide)).trans h4)) (h.r.1.cell m9) (h.r.1.cell m10) ⟨rfl, rfl⟩)
    | 7, hT =>
      obtain ⟨rfl, rfl⟩ := Prod.mk.inj (Option.some.inj (show some ((some 14 : Option Nat), (.inr 1 : Value ⊕ Nat)) = some (d, x) from hT))
      refine wpOp_yes _ rfl 3 _ rfl 10 rfl rfl (h.val 3 10 _ rfl (by decide)) (v_call 20 _ _ rfl _ Try.func20 (by kernel_rfl) (by kernel_rfl) #[.agg #[p0, p1, p2, p3, p4, p5, p6, p7, p8], .agg #[s0, s1]] (by simp [veval_of (h.val 5 12 _ rfl (by decide)), veval_of (h.val 6 13 _ rfl (by decide))]; first | done | rfl | exact ⟨rfl, rfl⟩ | exact ⟨rfl, rfl, rfl⟩ | exact ⟨rfl, rfl, rfl, rfl⟩) ((k1 w' h.r.1).mono ?_))
      rintro e y ⟨u, rfl, hu, kz⟩
      exact ⟨_, rfl, _, rfl, RK.step h.r hVV kz hu⟩
    | 8, hT =>
      obtain ⟨rfl, rfl⟩ := Prod.mk.inj (Option.some.inj (show some ((some 15 : Option Nat), (.inl (.agg #[t0, t1]) : Value ⊕ Nat)) = some (d, x) from hT))
      exact wpOp_yes _ rfl 3 _ rfl 10 rfl rfl (h.val 3 10 _ rfl (by decide)) (v_load37 (.tmp 5) _ _ _ _ rfl (veval_of ((h.ot 5 (by decide)).trans h5)) (h.r.1.cell m11) (h.r.1.cell m12) ⟨rfl, rfl⟩)
    | 9, hT =>
      obtain ⟨rfl, rfl⟩ := Prod.mk.inj (Option.some.inj (show some ((some 16 : Option Nat), (.inr 2 : Value ⊕ Nat)) = some (d, x) from hT))
      obtain ⟨u1, e1⟩ := h.has 1 7 rfl 12 (by kernel_rfl)
      have hv1 := h.r.2 1 u1 e1
      refine wpOp_yes _ rfl 3 _ rfl 10 rfl rfl (h.val 3 10 _ rfl (by decide)) (v_call 47 _ _ rfl _ Try.func47 (by kernel_rfl) (by kernel_rfl) #[.agg #[p0, p1, p2, p3, p4, p5, p6, p7, p8], u1, .agg #[t0, t1]] (by simp [veval_of (h.val 4 11 _ rfl (by decide)), veval_of (h.vale 7 14 1 rfl (by decide) e1), veval_of (h.val 8 15 _ rfl (by decide))]; first | done | rfl | exact ⟨rfl, rfl⟩ | exact ⟨rfl, rfl, rfl⟩ | exact ⟨rfl, rfl, rfl, rfl⟩) ((k2 w' u1 h.r.1 hv1).mono ?_))
      rintro e y ⟨u, rfl, hu, kz⟩
      exact ⟨_, rfl, _, rfl, RK.step h.r hVV kz hu⟩
    | 10, hT =>
      obtain ⟨rfl, rfl⟩ := Prod.mk.inj (Option.some.inj (show some ((some 17 : Option Nat), (.inl (.bool r) : Value ⊕ Nat)) = some (d, x) from hT))
      obtain ⟨u2, e2⟩ := h.has 2 9 rfl 12 (by kernel_rfl)
      have hv2 := h.r.2 2 u2 e2
      have q2 := x2 u2 _ hv2
      subst q2
      exact wpOp_of _ rfl rfl (v_pickT (.tmp 10) (.tmp 16) _ _ rfl (veval_of (h.val 3 10 _ rfl (by decide))) (veval_of (h.vale 9 16 2 rfl (by decide) e2)) ⟨rfl, rfl⟩)
    | 11, hT =>
      obtain ⟨rfl, rfl⟩ := Prod.mk.inj (Option.some.inj (show some ((some 6 : Option Nat), (.inl (.bool r) : Value ⊕ Nat)) = some (d, x) from hT))
      exact wpOp_of _ rfl rfl (v_asg (.tmp 17) _ rfl (veval_of (h.val 10 17 _ rfl (by decide))) ⟨rfl, rfl⟩)
    | i + 12, hT => simp [mtT] at hT
  · intro vs w' hv hR
    exact hend vs w' hR.2 (fun k hk => hv k (by simpa using hk)) hR.1
def mf : Array Oper := #[{ dst := some 7, op := Go.Op.load 33 (Go.Operand.tmp 3), type := 33, pos := "blastm.go:40", after := #[], guard := none }, { dst := some 8, op := Go.Op.load 37 (Go.Operand.tmp 4), type := 37, pos := "blastm.go:40", after := #[], guard := none }, { dst := some 9, op := Go.Op.call { callee := Go.Callee.value (Go.Operand.func 83), args := #[Go.Operand.tmp 7, Go.Operand.tmp 8], argTypes := #[33, 37] }, type := 4, pos := "blastm.go:40", after := #[{ on := 0, ground := Go.Ground.data }, { on := 1, ground := Go.Ground.data }], guard := none }, { dst := some 10, op := Go.Op.move (Go.Operand.tmp 9), type := 4, pos := "blastm.go:40", after := #[{ on := 2, ground := Go.Ground.data }, { on := 2, ground := Go.Ground.chain }], guard := none }, { dst := some 11, op := Go.Op.load 33 (Go.Operand.tmp 3), type := 33, pos := "blastm.go:40", after := #[{ on := 3, ground := Go.Ground.guard }], guard := some (3, true) }, { dst := some 12, op := Go.Op.load 33 (Go.Operand.tmp 3), type := 33, pos := "blastm.go:40", after := #[{ on := 3, ground := Go.Ground.guard }], guard := some (3, true) }, { dst := some 13, op := Go.Op.load 37 (Go.Operand.tmp 4), type := 37, pos := "blastm.go:40", after := #[{ on := 3, ground := Go.Ground.guard }], guard := some (3, true) }, { dst := some 14, op := Go.Op.call { callee := Go.Callee.value (Go.Operand.func 20), args := #[Go.Operand.tmp 12, Go.Operand.tmp 13], argTypes := #[33, 37] }, type := 37, pos := "blastm.go:40", after := #[{ on := 5, ground := Go.Ground.data }, { on := 6, ground := Go.Ground.data }, { on := 3, ground := Go.Ground.chain }, { on := 3, ground := Go.Ground.guard }], guard := some (3, true) }, { dst := some 15, op := Go.Op.load 37 (Go.Operand.tmp 5), type := 37, pos := "blastm.go:40", after := #[{ on := 3, ground := Go.Ground.guard }], guard := some (3, true) }, { dst := some 16, op := Go.Op.call { callee := Go.Callee.value (Go.Operand.func 47), args := #[Go.Operand.tmp 11, Go.Operand.tmp 14, Go.Operand.tmp 15], argTypes := #[33, 37, 37] }, type := 4, pos := "blastm.go:40", after := #[{ on := 4, ground := Go.Ground.data }, { on := 7, ground := Go.Ground.data }, { on := 8, ground := Go.Ground.data }, { on := 7, ground := Go.Ground.chain }, { on := 3, ground := Go.Ground.guard }], guard := some (3, true) }, { dst := some 17, op := Go.Op.pick (Go.Operand.tmp 10) (Go.Operand.tmp 16) (Go.Operand.const (Go.Value.bool false)), type := 4, pos := "blastm.go:40", after := #[{ on := 3, ground := Go.Ground.data }, { on := 9, ground := Go.Ground.data }], guard := none }, { dst := some 6, op := Go.Op.assign (Go.Operand.tmp 17), type := 4, pos := "blastm.go:40", after := #[{ on := 10, ground := Go.Ground.data }, { on := 9, ground := Go.Ground.chain }, { on := 0, ground := Go.Ground.phase }, { on := 1, ground := Go.Ground.phase }, { on := 2, ground := Go.Ground.phase }, { on := 3, ground := Go.Ground.phase }, { on := 4, ground := Go.Ground.phase }, { on := 5, ground := Go.Ground.phase }, { on := 6, ground := Go.Ground.phase }, { on := 7, ground := Go.Ground.phase }, { on := 8, ground := Go.Ground.phase }, { on := 9, ground := Go.Ground.phase }, { on := 10, ground := Go.Ground.phase }], guard := none }]
def mfT (g3 g4 g5 : Nat) (p0 p1 p2 p3 p4 p5 p6 p7 p8 s0 s1 t0 t1 : Value) (r : Bool) : List (Option Nat × (Value ⊕ Nat)) := [(some 7, .inl (.agg #[p0, p1, p2, p3, p4, p5, p6, p7, p8])), (some 8, .inl (.agg #[s0, s1])), (some 9, .inr 0), (some 10, .inl (.bool false)), (some 11, .inl (undef)), (some 12, .inl (undef)), (some 13, .inl (undef)), (some 14, .inl (undef)), (some 15, .inl (undef)), (some 16, .inl (undef)), (some 17, .inl (.bool false)), (some 6, .inl (.bool false))]
theorem mf_chk : chk mf mf.size = true := by kernel_rfl
set_option maxRecDepth 4000 in
set_option maxHeartbeats 4000000 in
theorem mf_c {Q : Exit → Act → World → Prop} {a0 : Act} {w : World} (g3 g4 g5 : Nat) (p0 p1 p2 p3 p4 p5 p6 p7 p8 s0 s1 t0 t1 : Value) (r : Bool) (hz0 : a0.tmps.size = 18) (h3 : a0.tmps[3]? = some (.pointer (some ⟨g3, 0, none⟩))) (h4 : a0.tmps[4]? = some (.pointer (some ⟨g4, 0, none⟩))) (m0 : w.drew.cell? ⟨g3, 0, none⟩ = some (p0)) (m1 : w.drew.cell? ⟨g3, 1, none⟩ = some (p1)) (m2 : w.drew.cell? ⟨g3, 2, none⟩ = some (p2)) (m3 : w.drew.cell? ⟨g3, 3, none⟩ = some (p3)) (m4 : w.drew.cell? ⟨g3, 4, none⟩ = some (p4)) (m5 : w.drew.cell? ⟨g3, 5, none⟩ = some (p5)) (m6 : w.drew.cell? ⟨g3, 6, none⟩ = some (p6)) (m7 : w.drew.cell? ⟨g3, 7, none⟩ = some (p7)) (m8 : w.drew.cell? ⟨g3, 8, none⟩ = some (p8)) (m9 : w.drew.cell? ⟨g4, 0, none⟩ = some (s0)) (m10 : w.drew.cell? ⟨g4, 1, none⟩ = some (s1))  (VV : Nat → Value → World → Prop) (hVV : ∀ k u Z Z', Keep Z Z' → VV k u Z → VV k u Z') (k0 : ∀ (Z : World), Keep w.drew Z → Calls Try.prog 83 #[.agg #[p0, p1, p2, p3, p4, p5, p6, p7, p8], .agg #[s0, s1]] Z fun e w' => ∃ u, e = .returned u ∧ VV 0 u w' ∧ Keep Z w') (x0 : ∀ u Z, VV 0 u Z → u = .bool false)
    (hend : ∀ vs w', (∀ k u, vs k = some u → VV k u w') → (∀ k < 1, ∃ u, vs k = some u) → Keep w.drew w' → Q .normal (lay a0 (Lmx (mfT g3 g4 g5 p0 p1 p2 p3 p4 p5 p6 p7 p8 s0 s1 t0 t1 r) vs)) w') :
    (Code.region 1 mf true).wp Try.prog Q a0 w := by
  refine wp_region_mx (by rfl) (mfT g3 g4 g5 p0 p1 p2 p3 p4 p5 p6 p7 p8 s0 s1 t0 t1 r) [7, 8, 9, 10, 11, 12, 13, 14, 15, 16, 17, 6] [none, none, some 0, none, none, none, none, none, none, none, none, none] [2] rfl rfl rfl mf_chk (by decide) (by decide) (by
    intro d hd
    rw [hz0]
    have : ∀ y ∈ [7, 8, 9, 10, 11, 12, 13, 14, 15, 16, 17, 6], y < 18 := by decide
    exact this _ hd) (RK w.drew VV) RK.start ?_ ?_
  · intro i d x hT listed vs a w' h
    match i, hT with
    | 0, hT =>
      obtain ⟨rfl, rfl⟩ := Prod.mk.inj (Option.some.inj (show some ((some 7 : Option Nat), (.inl (.agg #[p0, p1, p2, p3, p4, p5, p6, p7, p8]) : Value ⊕ Nat)) = some (d, x) from hT))
      exact wpOp_of _ rfl rfl (v_load33 (.tmp 3) _ _ _ _ _ _ _ _ _ _ rfl (veval_of ((h.ot 3 (by decide)).trans h3)) (h.r.1.cell m0) (h.r.1.cell m1) (h.r.1.cell m2) (h.r.1.cell m3) (h.r.1.cell m4) (h.r.1.cell m5) (h.r.1.cell m6) (h.r.1.cell m7) (h.r.1.cell m8) ⟨rfl, rfl⟩)
    | 1, hT =>
      obtain ⟨rfl, rfl⟩ := Prod.mk.inj (Option.some.inj (show some ((some 8 : Option Nat), (.inl (.agg #[s0, s1]) : Value ⊕ Nat)) = some (d, x) from hT))
      exact wpOp_of _ rfl rfl (v_load37 (.tmp 4) _ _ _ _ rfl (veval_of ((h.ot 4 (by decide)).trans h4)) (h.r.1.cell m9) (h.r.1.cell m10) ⟨rfl, rfl⟩)
    | 2, hT =>
      obtain ⟨rfl, rfl⟩ := Prod.mk.inj (Option.some.inj (show some ((some 9 : Option Nat), (.inr 0 : Value ⊕ Nat)) = some (d, x) from hT))
      refine wpOp_of _ rfl rfl (v_call 83 _ _ rfl _ Try.func83 (by kernel_rfl) (by kernel_rfl) #[.agg #[p0, p1, p2, p3, p4, p5, p6, p7, p8], .agg #[s0, s1]] (by simp [veval_of (h.val 0 7 _ rfl (by decide)), veval_of (h.val 1 8 _ rfl (by decide))]; first | done | rfl | exact ⟨rfl, rfl⟩ | exact ⟨rfl, rfl, rfl⟩ | exact ⟨rfl, rfl, rfl, rfl⟩) ((k0 w' h.r.1).mono ?_))
      rintro e y ⟨u, rfl, hu, kz⟩
      exact ⟨_, rfl, _, rfl, RK.step h.r hVV kz hu⟩
    | 3, hT =>
      obtain ⟨rfl, rfl⟩ := Prod.mk.inj (Option.some.inj (show some ((some 10 : Option Nat), (.inl (.bool false) : Value ⊕ Nat)) = some (d, x) from hT))
      obtain ⟨u0, e0⟩ := h.has 0 2 rfl 12 (by kernel_rfl)
      have hv0 := h.r.2 0 u0 e0
      have q0 := x0 u0 _ hv0
      subst q0
      exact wpOp_of _ rfl rfl (v_move (.tmp 9) _ rfl (veval_of (h.vale 2 9 0 rfl (by decide) e0)) ⟨rfl, rfl⟩)
    | 4, hT =>
      obtain ⟨rfl, rfl⟩ := Prod.mk.inj (Option.some.inj (show some ((some 11 : Option Nat), (.inl (undef) : Value ⊕ Nat)) = some (d, x) from hT))
      exact wpOp_no _ rfl 3 _ rfl 10 rfl rfl (h.val 3 10 _ rfl (by decide)) ⟨rfl, rfl⟩
    | 5, hT =>
      obtain ⟨rfl, rfl⟩ := Prod.mk.inj (Option.some.inj (show some ((some 12 : Option Nat), (.inl (undef) : Value ⊕ Nat)) = some (d, x) from hT))
      exact wpOp_no _ rfl 3 _ rfl 10 rfl rfl (h.val 3 10 _ rfl (by decide)) ⟨rfl, rfl⟩
    | 6, hT =>
      obtain ⟨rfl, rfl⟩ := Prod.mk.inj (Option.some.inj (show some ((some 13 : Option Nat), (.inl (undef) : Value ⊕ Nat)) = some (d, x) from hT))
      exact wpOp_no _ rfl 3 _ rfl 10 rfl rfl (h.val 3 10 _ rfl (by decide)) ⟨rfl, rfl⟩
    | 7, hT =>
      obtain ⟨rfl, rfl⟩ := Prod.mk.inj (Option.some.inj (show some ((some 14 : Option Nat), (.inl (undef) : Value ⊕ Nat)) = some (d, x) from hT))
      exact wpOp_no _ rfl 3 _ rfl 10 rfl rfl (h.val 3 10 _ rfl (by decide)) ⟨rfl, rfl⟩
    | 8, hT =>
      obtain ⟨rfl, rfl⟩ := Prod.mk.inj (Option.some.inj (show some ((some 15 : Option Nat), (.inl (undef) : Value ⊕ Nat)) = some (d, x) from hT))
      exact wpOp_no _ rfl 3 _ rfl 10 rfl rfl (h.val 3 10 _ rfl (by decide)) ⟨rfl, rfl⟩
    | 9, hT =>
      obtain ⟨rfl, rfl⟩ := Prod.mk.inj (Option.some.inj (show some ((some 16 : Option Nat), (.inl (undef) : Value ⊕ Nat)) = some (d, x) from hT))
      exact wpOp_no _ rfl 3 _ rfl 10 rfl rfl (h.val 3 10 _ rfl (by decide)) ⟨rfl, rfl⟩
    | 10, hT =>
      obtain ⟨rfl, rfl⟩ := Prod.mk.inj (Option.some.inj (show some ((some 17 : Option Nat), (.inl (.bool false) : Value ⊕ Nat)) = some (d, x) from hT))
      exact wpOp_of _ rfl rfl (v_pickF (.tmp 10) (.tmp 16) _ rfl (veval_of (h.val 3 10 _ rfl (by decide))) ⟨rfl, rfl⟩)
    | 11, hT =>
      obtain ⟨rfl, rfl⟩ := Prod.mk.inj (Option.some.inj (show some ((some 6 : Option Nat), (.inl (.bool false) : Value ⊕ Nat)) = some (d, x) from hT))
      exact wpOp_of _ rfl rfl (v_asg (.tmp 17) _ rfl (veval_of (h.val 10 17 _ rfl (by decide))) ⟨rfl, rfl⟩)
    | i + 12, hT => simp [mfT] at hT
  · intro vs w' hv hR
    exact hend vs w' hR.2 (fun k hk => hv k (by simpa using hk)) hR.1
end Go.Proofs.Qxb6500772a
