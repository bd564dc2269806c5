/- The drawn regions of Lengths: Wrap and MIC of a step. -/
import Derived.Test.Qxb6500771aGreatJb
namespace Go.Proofs.Qxb6500771aGreat
open Go Go.RowKit Go.Qm Go.Qv
set_option linter.unusedVariables false
set_option linter.unusedSimpArgs false
def le19 : Array Oper := #[{ dst := some 93, op := Go.Op.buildSlice 26 0 #[], type := 26, pos := "laws.go:404", after := #[], guard := none }, { dst := some 94, op := Go.Op.load 31 (Go.Operand.tmp 4), type := 31, pos := "laws.go:404", after := #[], guard := none }, { dst := some 95, op := Go.Op.call { callee := Go.Callee.value (Go.Operand.func 14), args := #[Go.Operand.tmp 94], argTypes := #[31] }, type := 43, pos := "laws.go:404", after := #[{ on := 1, ground := Go.Ground.data }], guard := none }, { dst := some 96, op := Go.Op.load 31 (Go.Operand.tmp 4), type := 31, pos := "laws.go:404", after := #[], guard := none }, { dst := some 97, op := Go.Op.call { callee := Go.Callee.value (Go.Operand.func 15), args := #[Go.Operand.tmp 96], argTypes := #[31] }, type := 46, pos := "laws.go:404", after := #[{ on := 3, ground := Go.Ground.data }, { on := 2, ground := Go.Ground.chain }], guard := none }, { dst := some 98, op := Go.Op.fieldAddr 31 (Go.Operand.tmp 4) 10, type := 0, pos := "laws.go:404", after := #[], guard := none }, { dst := some 99, op := Go.Op.load 26 (Go.Operand.tmp 98), type := 26, pos := "laws.go:404", after := #[{ on := 5, ground := Go.Ground.data }], guard := none }, { dst := some 100, op := Go.Op.call { callee := Go.Callee.value (Go.Operand.func 13), args := #[Go.Operand.tmp 93, Go.Operand.tmp 95, Go.Operand.tmp 97, Go.Operand.tmp 99], argTypes := #[26, 43, 46, 26] }, type := 40, pos := "laws.go:404", after := #[{ on := 0, ground := Go.Ground.data }, { on := 2, ground := Go.Ground.data }, { on := 4, ground := Go.Ground.data }, { on := 6, ground := Go.Ground.data }, { on := 4, ground := Go.Ground.chain }], guard := none }, { dst := some 92, op := Go.Op.move (Go.Operand.tmp 100), type := 40, pos := "laws.go:404", after := #[{ on := 7, ground := Go.Ground.data }], guard := none }, { dst := some 101, op := Go.Op.extract (Go.Operand.tmp 92) 0, type := 26, pos := "laws.go:404", after := #[{ on := 8, ground := Go.Ground.data }], guard := none }, { dst := some 102, op := Go.Op.extract (Go.Operand.tmp 92) 1, type := 36, pos := "laws.go:404", after := #[{ on := 8, ground := Go.Ground.data }, { on := 11, ground := Go.Ground.gcOnly Go.Departure.lateStores }], guard := none }, { dst := some 13, op := Go.Op.assign (Go.Operand.tmp 101), type := 26, pos := "laws.go:404", after := #[{ on := 9, ground := Go.Ground.data }, { on := 7, ground := Go.Ground.chain }, { on := 0, ground := Go.Ground.phase }, { on := 1, ground := Go.Ground.phase }, { on := 2, ground := Go.Ground.phase }, { on := 3, ground := Go.Ground.phase }, { on := 4, ground := Go.Ground.phase }, { on := 5, ground := Go.Ground.phase }, { on := 6, ground := Go.Ground.phase }, { on := 7, ground := Go.Ground.phase }, { on := 8, ground := Go.Ground.phase }, { on := 9, ground := Go.Ground.phase }, { on := 10, ground := Go.Ground.textOnly Go.Departure.lateStores }], guard := none }, { dst := some 11, op := Go.Op.assign (Go.Operand.tmp 102), type := 36, pos := "laws.go:404", after := #[{ on := 10, ground := Go.Ground.data }, { on := 11, ground := Go.Ground.chain }, { on := 0, ground := Go.Ground.phase }, { on := 1, ground := Go.Ground.phase }, { on := 2, ground := Go.Ground.phase }, { on := 3, ground := Go.Ground.phase }, { on := 4, ground := Go.Ground.phase }, { on := 5, ground := Go.Ground.phase }, { on := 6, ground := Go.Ground.phase }, { on := 7, ground := Go.Ground.phase }, { on := 8, ground := Go.Ground.phase }, { on := 9, ground := Go.Ground.phase }, { on := 10, ground := Go.Ground.phase }, { on := 11, ground := Go.Ground.phase }], guard := none }]
def le19T (gp : Nat) (KV SV : Value) (sa : Option Addr) (sn sc : Nat) (X : List Value) : List (Option Nat × (Value ⊕ Nat)) := [(some 93, .inr 0), (some 94, .inl (.agg X.toArray)), (some 95, .inr 1), (some 96, .inl (.agg X.toArray)), (some 97, .inr 2), (some 98, .inl (.pointer (some ⟨gp, 10, none⟩))), (some 99, .inl (.slice sa sn sc)), (some 100, .inr 3), (some 92, .inr 4), (some 101, .inr 5), (some 102, .inr 6), (some 13, .inr 7), (some 11, .inr 8)]
theorem le19_chk : chk le19 le19.size = true := by kernel_rfl
set_option maxRecDepth 4000 in
set_option maxHeartbeats 4000000 in
theorem le19_c {Q : Exit → Act → World → Prop} {a0 : Act} {w : World} (gp : Nat) (KV SV : Value) (sa : Option Addr) (sn sc : Nat) (X : List Value) (hz0 : a0.tmps.size = 197) (h4 : a0.tmps[4]? = some (.pointer (some ⟨gp, 0, none⟩))) (m0 : w.drew.cell? ⟨gp, 10, none⟩ = some (.slice sa sn sc)) (Agp : w.drew.heap[gp]? = some (.cells X.toArray 31 (0, 0))) (hX : X.length = 16) (VV : Nat → Value → World → Prop) (hVV : ∀ k u Z Z', Keep Z Z' → VV k u Z → VV k u Z') (b0 : ∀ Z, Keep w.drew Z → VV 0 (.slice (some ⟨Z.heap.size, 0, none⟩) 0 0) (Z.alloc (.cells #[] 5))) (k1 : ∀ (Z : World), Keep w.drew Z → Calls Tryz.prog 14 #[.agg X.toArray] Z fun e w' => ∃ u, e = .returned u ∧ VV 1 u w' ∧ Keep Z w') (x1 : ∀ u Z, VV 1 u Z → u = KV) (k2 : ∀ (Z : World), Keep w.drew Z → Calls Tryz.prog 15 #[.agg X.toArray] Z fun e w' => ∃ u, e = .returned u ∧ VV 2 u w' ∧ Keep Z w') (x2 : ∀ u Z, VV 2 u Z → u = SV) (k3 : ∀ (Z : World) (u0 : Value), Keep w.drew Z → VV 0 u0 Z → Calls Tryz.prog 13 #[u0, KV, SV, .slice sa sn sc] Z fun e w' => ∃ u, e = .returned u ∧ VV 3 u w' ∧ Keep Z w') (z4 : ∀ u Z, VV 3 u Z → VV 4 u Z) (t5 : ∀ u Z, VV 4 u Z → ∃ vs v, u = .tuple vs ∧ vs[0]? = some v ∧ VV 5 v Z) (t6 : ∀ u Z, VV 4 u Z → ∃ vs v, u = .tuple vs ∧ vs[1]? = some v ∧ VV 6 v Z) (z7 : ∀ u Z, VV 5 u Z → VV 7 u Z) (z8 : ∀ u Z, VV 6 u Z → VV 8 u Z)
    (hend : ∀ vs w', (∀ k u, vs k = some u → VV k u w') → (∀ k < 9, ∃ u, vs k = some u) → Keep w.drew w' → Q .normal (lay a0 (Lmx (le19T gp KV SV sa sn sc X) vs)) w') :
    (Code.region 19 le19 true).wp Tryz.prog Q a0 w := by
  refine wp_region_mx (by rfl) (le19T gp KV SV sa sn sc X) [93, 94, 95, 96, 97, 98, 99, 100, 92, 101, 102, 13, 11] [some 0, none, some 1, none, some 2, none, none, some 3, some 4, some 5, some 6, some 7, some 8] [0, 2, 4, 7, 8, 9, 10, 11, 12] rfl rfl rfl le19_chk (by decide) (by decide) (by
    intro d hd
    rw [hz0]
    have : ∀ y ∈ [93, 94, 95, 96, 97, 98, 99, 100, 92, 101, 102, 13, 11], y < 197 := by decide
    exact this _ hd) (RK w.drew VV) RK.start ?_ ?_
  · intro i d x hT listed vs a w' h
    match i, hT with
    | 0, hT =>
      obtain ⟨rfl, rfl⟩ := Prod.mk.inj (Option.some.inj (show some ((some 93 : Option Nat), (.inr 0 : Value ⊕ Nat)) = some (d, x) from hT))
      have hR := h.r
      exact wpOp_of _ rfl rfl (v_bs26 rfl ⟨_, rfl, RK.step hR hVV ((Keep.refl _).alloc _) (b0 _ hR.1)⟩)
    | 1, hT =>
      obtain ⟨rfl, rfl⟩ := Prod.mk.inj (Option.some.inj (show some ((some 94 : Option Nat), (.inl (.agg X.toArray) : Value ⊕ Nat)) = some (d, x) from hT))
      have hR := h.r
      exact wpOp_of _ rfl rfl (v_ld31 (.tmp 4) _ _ rfl (veval_of ((h.ot 4 (by decide)).trans h4)) (hR.1.heap Agp) hX ⟨rfl, rfl⟩)
    | 2, hT =>
      obtain ⟨rfl, rfl⟩ := Prod.mk.inj (Option.some.inj (show some ((some 95 : Option Nat), (.inr 1 : Value ⊕ Nat)) = some (d, x) from hT))
      have hR := h.r
      refine wpOp_of _ rfl rfl (v_call 14 _ _ rfl _ Tryz.func14 (by kernel_rfl) (by kernel_rfl) #[.agg X.toArray] (by simp [veval_of (h.val 1 94 _ rfl (by decide))]; first | done | rfl | exact ⟨rfl, rfl⟩ | exact ⟨rfl, rfl, rfl⟩ | exact ⟨rfl, rfl, rfl, rfl⟩) ((k1 w' hR.1).mono ?_))
      rintro e y ⟨u, rfl, hu, kz⟩
      exact ⟨_, rfl, ⟨_, rfl, RK.step hR hVV kz hu⟩⟩
    | 3, hT =>
      obtain ⟨rfl, rfl⟩ := Prod.mk.inj (Option.some.inj (show some ((some 96 : Option Nat), (.inl (.agg X.toArray) : Value ⊕ Nat)) = some (d, x) from hT))
      have hR := h.r
      exact wpOp_of _ rfl rfl (v_ld31 (.tmp 4) _ _ rfl (veval_of ((h.ot 4 (by decide)).trans h4)) (hR.1.heap Agp) hX ⟨rfl, rfl⟩)
    | 4, hT =>
      obtain ⟨rfl, rfl⟩ := Prod.mk.inj (Option.some.inj (show some ((some 97 : Option Nat), (.inr 2 : Value ⊕ Nat)) = some (d, x) from hT))
      have hR := h.r
      refine wpOp_of _ rfl rfl (v_call 15 _ _ rfl _ Tryz.func15 (by kernel_rfl) (by kernel_rfl) #[.agg X.toArray] (by simp [veval_of (h.val 3 96 _ rfl (by decide))]; first | done | rfl | exact ⟨rfl, rfl⟩ | exact ⟨rfl, rfl, rfl⟩ | exact ⟨rfl, rfl, rfl, rfl⟩) ((k2 w' hR.1).mono ?_))
      rintro e y ⟨u, rfl, hu, kz⟩
      exact ⟨_, rfl, ⟨_, rfl, RK.step hR hVV kz hu⟩⟩
    | 5, hT =>
      obtain ⟨rfl, rfl⟩ := Prod.mk.inj (Option.some.inj (show some ((some 98 : Option Nat), (.inl (.pointer (some ⟨gp, 10, none⟩)) : Value ⊕ Nat)) = some (d, x) from hT))
      have hR := h.r
      exact wpOp_of _ rfl rfl (v_g31 (.tmp 4) 10 _ rfl (by decide) (veval_of ((h.ot 4 (by decide)).trans h4)) ⟨rfl, rfl⟩)
    | 6, hT =>
      obtain ⟨rfl, rfl⟩ := Prod.mk.inj (Option.some.inj (show some ((some 99 : Option Nat), (.inl (.slice sa sn sc) : Value ⊕ Nat)) = some (d, x) from hT))
      have hR := h.r
      exact wpOp_of _ rfl rfl (v_ld26 (.tmp 98) _ _ _ rfl (veval_of (h.val 5 98 _ rfl (by decide))) (hR.1.cell m0) ⟨rfl, rfl⟩)
    | 7, hT =>
      obtain ⟨rfl, rfl⟩ := Prod.mk.inj (Option.some.inj (show some ((some 100 : Option Nat), (.inr 3 : Value ⊕ Nat)) = some (d, x) from hT))
      have hR := h.r
      obtain ⟨u0, e0⟩ := h.has 0 0 rfl 13 (by kernel_rfl)
      have hv0 := hR.2 0 u0 e0
      obtain ⟨u1, e1⟩ := h.has 1 2 rfl 13 (by kernel_rfl)
      have hv1 := hR.2 1 u1 e1
      have q1 := x1 u1 _ hv1
      rw [q1] at e1 hv1
      obtain ⟨u2, e2⟩ := h.has 2 4 rfl 13 (by kernel_rfl)
      have hv2 := hR.2 2 u2 e2
      have q2 := x2 u2 _ hv2
      rw [q2] at e2 hv2
      refine wpOp_of _ rfl rfl (v_call 13 _ _ rfl _ Tryz.func13 (by kernel_rfl) (by kernel_rfl) #[u0, KV, SV, .slice sa sn sc] (by simp [veval_of (h.vale 0 93 0 rfl (by decide) e0), veval_of (h.vale 2 95 1 rfl (by decide) e1), veval_of (h.vale 4 97 2 rfl (by decide) e2), veval_of (h.val 6 99 _ rfl (by decide))]; first | done | rfl | exact ⟨rfl, rfl⟩ | exact ⟨rfl, rfl, rfl⟩ | exact ⟨rfl, rfl, rfl, rfl⟩) ((k3 w' u0 hR.1 hv0).mono ?_))
      rintro e y ⟨u, rfl, hu, kz⟩
      exact ⟨_, rfl, ⟨_, rfl, RK.step hR hVV kz hu⟩⟩
    | 8, hT =>
      obtain ⟨rfl, rfl⟩ := Prod.mk.inj (Option.some.inj (show some ((some 92 : Option Nat), (.inr 4 : Value ⊕ Nat)) = some (d, x) from hT))
      have hR := h.r
      obtain ⟨u3, e3⟩ := h.has 3 7 rfl 13 (by kernel_rfl)
      have hv3 := hR.2 3 u3 e3
      exact wpOp_of _ rfl rfl (v_move (.tmp 100) _ rfl (veval_of (h.vale 7 100 3 rfl (by decide) e3)) ⟨_, rfl, RK.step hR hVV (Keep.refl _) (z4 _ _ hv3)⟩)
    | 9, hT =>
      obtain ⟨rfl, rfl⟩ := Prod.mk.inj (Option.some.inj (show some ((some 101 : Option Nat), (.inr 5 : Value ⊕ Nat)) = some (d, x) from hT))
      have hR := h.r
      obtain ⟨u4, e4⟩ := h.has 4 8 rfl 13 (by kernel_rfl)
      have hv4 := hR.2 4 u4 e4
      obtain ⟨tv, tx, rfl, ht, hw⟩ := t5 u4 _ hv4
      exact wpOp_of _ rfl rfl (v_ext (.tmp 92) _ 0 tx rfl (veval_of (h.vale 8 92 4 rfl (by decide) e4)) ht ⟨_, rfl, RK.step hR hVV (Keep.refl _) hw⟩)
    | 10, hT =>
      obtain ⟨rfl, rfl⟩ := Prod.mk.inj (Option.some.inj (show some ((some 102 : Option Nat), (.inr 6 : Value ⊕ Nat)) = some (d, x) from hT))
      have hR := h.r
      obtain ⟨u4, e4⟩ := h.has 4 8 rfl 13 (by kernel_rfl)
      have hv4 := hR.2 4 u4 e4
      obtain ⟨tv, tx, rfl, ht, hw⟩ := t6 u4 _ hv4
      exact wpOp_of _ rfl rfl (v_ext (.tmp 92) _ 1 tx rfl (veval_of (h.vale 8 92 4 rfl (by decide) e4)) ht ⟨_, rfl, RK.step hR hVV (Keep.refl _) hw⟩)
    | 11, hT =>
      obtain ⟨rfl, rfl⟩ := Prod.mk.inj (Option.some.inj (show some ((some 13 : Option Nat), (.inr 7 : Value ⊕ Nat)) = some (d, x) from hT))
      have hR := h.r
      obtain ⟨u5, e5⟩ := h.has 5 9 rfl 13 (by kernel_rfl)
      have hv5 := hR.2 5 u5 e5
      exact wpOp_of _ rfl rfl (v_asg (.tmp 101) _ rfl (veval_of (h.vale 9 101 5 rfl (by decide) e5)) ⟨_, rfl, RK.step hR hVV (Keep.refl _) (z7 _ _ hv5)⟩)
    | 12, hT =>
      obtain ⟨rfl, rfl⟩ := Prod.mk.inj (Option.some.inj (show some ((some 11 : Option Nat), (.inr 8 : Value ⊕ Nat)) = some (d, x) from hT))
      have hR := h.r
      obtain ⟨u6, e6⟩ := h.has 6 10 rfl 13 (by kernel_rfl)
      have hv6 := hR.2 6 u6 e6
      exact wpOp_of _ rfl rfl (v_asg (.tmp 102) _ rfl (veval_of (h.vale 10 102 6 rfl (by decide) e6)) ⟨_, rfl, RK.step hR hVV (Keep.refl _) (z8 _ _ hv6)⟩)
    | i + 13, hT => simp [le19T] at hT
  · intro vs w' hv hR
    exact hend vs w' hR.2 (fun k hk => hv k (by simpa using hk)) hR.1
def le30 : Array Oper := #[{ dst := some 164, op := Go.Op.buildSlice 26 0 #[], type := 26, pos := "laws.go:421", after := #[], guard := none }, { dst := some 165, op := Go.Op.load 31 (Go.Operand.tmp 15), type := 31, pos := "laws.go:421", after := #[], guard := none }, { dst := some 166, op := Go.Op.call { callee := Go.Callee.value (Go.Operand.func 14), args := #[Go.Operand.tmp 165], argTypes := #[31] }, type := 43, pos := "laws.go:421", after := #[{ on := 1, ground := Go.Ground.data }], guard := none }, { dst := some 167, op := Go.Op.load 31 (Go.Operand.tmp 15), type := 31, pos := "laws.go:421", after := #[], guard := none }, { dst := some 168, op := Go.Op.call { callee := Go.Callee.value (Go.Operand.func 15), args := #[Go.Operand.tmp 167], argTypes := #[31] }, type := 46, pos := "laws.go:421", after := #[{ on := 3, ground := Go.Ground.data }, { on := 2, ground := Go.Ground.chain }], guard := none }, { dst := some 169, op := Go.Op.fieldAddr 31 (Go.Operand.tmp 15) 10, type := 0, pos := "laws.go:421", after := #[], guard := none }, { dst := some 170, op := Go.Op.load 26 (Go.Operand.tmp 169), type := 26, pos := "laws.go:421", after := #[{ on := 5, ground := Go.Ground.data }], guard := none }, { dst := some 171, op := Go.Op.call { callee := Go.Callee.value (Go.Operand.func 18), args := #[Go.Operand.tmp 164, Go.Operand.tmp 166, Go.Operand.tmp 168, Go.Operand.tmp 170], argTypes := #[26, 43, 46, 26] }, type := 40, pos := "laws.go:421", after := #[{ on := 0, ground := Go.Ground.data }, { on := 2, ground := Go.Ground.data }, { on := 4, ground := Go.Ground.data }, { on := 6, ground := Go.Ground.data }, { on := 4, ground := Go.Ground.chain }], guard := none }, { dst := some 163, op := Go.Op.move (Go.Operand.tmp 171), type := 40, pos := "laws.go:421", after := #[{ on := 7, ground := Go.Ground.data }], guard := none }, { dst := some 172, op := Go.Op.extract (Go.Operand.tmp 163) 0, type := 26, pos := "laws.go:421", after := #[{ on := 8, ground := Go.Ground.data }], guard := none }, { dst := some 173, op := Go.Op.extract (Go.Operand.tmp 163) 1, type := 36, pos := "laws.go:421", after := #[{ on := 8, ground := Go.Ground.data }, { on := 11, ground := Go.Ground.gcOnly Go.Departure.lateStores }], guard := none }, { dst := some 16, op := Go.Op.assign (Go.Operand.tmp 172), type := 26, pos := "laws.go:421", after := #[{ on := 9, ground := Go.Ground.data }, { on := 7, ground := Go.Ground.chain }, { on := 0, ground := Go.Ground.phase }, { on := 1, ground := Go.Ground.phase }, { on := 2, ground := Go.Ground.phase }, { on := 3, ground := Go.Ground.phase }, { on := 4, ground := Go.Ground.phase }, { on := 5, ground := Go.Ground.phase }, { on := 6, ground := Go.Ground.phase }, { on := 7, ground := Go.Ground.phase }, { on := 8, ground := Go.Ground.phase }, { on := 9, ground := Go.Ground.phase }, { on := 10, ground := Go.Ground.textOnly Go.Departure.lateStores }], guard := none }, { dst := some 11, op := Go.Op.assign (Go.Operand.tmp 173), type := 36, pos := "laws.go:421", after := #[{ on := 10, ground := Go.Ground.data }, { on := 11, ground := Go.Ground.chain }, { on := 0, ground := Go.Ground.phase }, { on := 1, ground := Go.Ground.phase }, { on := 2, ground := Go.Ground.phase }, { on := 3, ground := Go.Ground.phase }, { on := 4, ground := Go.Ground.phase }, { on := 5, ground := Go.Ground.phase }, { on := 6, ground := Go.Ground.phase }, { on := 7, ground := Go.Ground.phase }, { on := 8, ground := Go.Ground.phase }, { on := 9, ground := Go.Ground.phase }, { on := 10, ground := Go.Ground.phase }, { on := 11, ground := Go.Ground.phase }], guard := none }]
def le30T (gp : Nat) (KV SV : Value) (sa : Option Addr) (sn sc : Nat) (X : List Value) : List (Option Nat × (Value ⊕ Nat)) := [(some 164, .inr 0), (some 165, .inl (.agg X.toArray)), (some 166, .inr 1), (some 167, .inl (.agg X.toArray)), (some 168, .inr 2), (some 169, .inl (.pointer (some ⟨gp, 10, none⟩))), (some 170, .inl (.slice sa sn sc)), (some 171, .inr 3), (some 163, .inr 4), (some 172, .inr 5), (some 173, .inr 6), (some 16, .inr 7), (some 11, .inr 8)]
theorem le30_chk : chk le30 le30.size = true := by kernel_rfl
set_option maxRecDepth 4000 in
set_option maxHeartbeats 4000000 in
theorem le30_c {Q : Exit → Act → World → Prop} {a0 : Act} {w : World} (gp : Nat) (KV SV : Value) (sa : Option Addr) (sn sc : Nat) (X : List Value) (hz0 : a0.tmps.size = 197) (h15 : a0.tmps[15]? = some (.pointer (some ⟨gp, 0, none⟩))) (m0 : w.drew.cell? ⟨gp, 10, none⟩ = some (.slice sa sn sc)) (Agp : w.drew.heap[gp]? = some (.cells X.toArray 31 (0, 0))) (hX : X.length = 16) (VV : Nat → Value → World → Prop) (hVV : ∀ k u Z Z', Keep Z Z' → VV k u Z → VV k u Z') (b0 : ∀ Z, Keep w.drew Z → VV 0 (.slice (some ⟨Z.heap.size, 0, none⟩) 0 0) (Z.alloc (.cells #[] 5))) (k1 : ∀ (Z : World), Keep w.drew Z → Calls Tryz.prog 14 #[.agg X.toArray] Z fun e w' => ∃ u, e = .returned u ∧ VV 1 u w' ∧ Keep Z w') (x1 : ∀ u Z, VV 1 u Z → u = KV) (k2 : ∀ (Z : World), Keep w.drew Z → Calls Tryz.prog 15 #[.agg X.toArray] Z fun e w' => ∃ u, e = .returned u ∧ VV 2 u w' ∧ Keep Z w') (x2 : ∀ u Z, VV 2 u Z → u = SV) (k3 : ∀ (Z : World) (u0 : Value), Keep w.drew Z → VV 0 u0 Z → Calls Tryz.prog 18 #[u0, KV, SV, .slice sa sn sc] Z fun e w' => ∃ u, e = .returned u ∧ VV 3 u w' ∧ Keep Z w') (z4 : ∀ u Z, VV 3 u Z → VV 4 u Z) (t5 : ∀ u Z, VV 4 u Z → ∃ vs v, u = .tuple vs ∧ vs[0]? = some v ∧ VV 5 v Z) (t6 : ∀ u Z, VV 4 u Z → ∃ vs v, u = .tuple vs ∧ vs[1]? = some v ∧ VV 6 v Z) (z7 : ∀ u Z, VV 5 u Z → VV 7 u Z) (z8 : ∀ u Z, VV 6 u Z → VV 8 u Z)
    (hend : ∀ vs w', (∀ k u, vs k = some u → VV k u w') → (∀ k < 9, ∃ u, vs k = some u) → Keep w.drew w' → Q .normal (lay a0 (Lmx (le30T gp KV SV sa sn sc X) vs)) w') :
    (Code.region 30 le30 true).wp Tryz.prog Q a0 w := by
  refine wp_region_mx (by rfl) (le30T gp KV SV sa sn sc X) [164, 165, 166, 167, 168, 169, 170, 171, 163, 172, 173, 16, 11] [some 0, none, some 1, none, some 2, none, none, some 3, some 4, some 5, some 6, some 7, some 8] [0, 2, 4, 7, 8, 9, 10, 11, 12] rfl rfl rfl le30_chk (by decide) (by decide) (by
    intro d hd
    rw [hz0]
    have : ∀ y ∈ [164, 165, 166, 167, 168, 169, 170, 171, 163, 172, 173, 16, 11], y < 197 := by decide
    exact this _ hd) (RK w.drew VV) RK.start ?_ ?_
  · intro i d x hT listed vs a w' h
    match i, hT with
    | 0, hT =>
      obtain ⟨rfl, rfl⟩ := Prod.mk.inj (Option.some.inj (show some ((some 164 : Option Nat), (.inr 0 : Value ⊕ Nat)) = some (d, x) from hT))
      have hR := h.r
      exact wpOp_of _ rfl rfl (v_bs26 rfl ⟨_, rfl, RK.step hR hVV ((Keep.refl _).alloc _) (b0 _ hR.1)⟩)
    | 1, hT =>
      obtain ⟨rfl, rfl⟩ := Prod.mk.inj (Option.some.inj (show some ((some 165 : Option Nat), (.inl (.agg X.toArray) : Value ⊕ Nat)) = some (d, x) from hT))
      have hR := h.r
      exact wpOp_of _ rfl rfl (v_ld31 (.tmp 15) _ _ rfl (veval_of ((h.ot 15 (by decide)).trans h15)) (hR.1.heap Agp) hX ⟨rfl, rfl⟩)
    | 2, hT =>
      obtain ⟨rfl, rfl⟩ := Prod.mk.inj (Option.some.inj (show some ((some 166 : Option Nat), (.inr 1 : Value ⊕ Nat)) = some (d, x) from hT))
      have hR := h.r
      refine wpOp_of _ rfl rfl (v_call 14 _ _ rfl _ Tryz.func14 (by kernel_rfl) (by kernel_rfl) #[.agg X.toArray] (by simp [veval_of (h.val 1 165 _ rfl (by decide))]; first | done | rfl | exact ⟨rfl, rfl⟩ | exact ⟨rfl, rfl, rfl⟩ | exact ⟨rfl, rfl, rfl, rfl⟩) ((k1 w' hR.1).mono ?_))
      rintro e y ⟨u, rfl, hu, kz⟩
      exact ⟨_, rfl, ⟨_, rfl, RK.step hR hVV kz hu⟩⟩
    | 3, hT =>
      obtain ⟨rfl, rfl⟩ := Prod.mk.inj (Option.some.inj (show some ((some 167 : Option Nat), (.inl (.agg X.toArray) : Value ⊕ Nat)) = some (d, x) from hT))
      have hR := h.r
      exact wpOp_of _ rfl rfl (v_ld31 (.tmp 15) _ _ rfl (veval_of ((h.ot 15 (by decide)).trans h15)) (hR.1.heap Agp) hX ⟨rfl, rfl⟩)
    | 4, hT =>
      obtain ⟨rfl, rfl⟩ := Prod.mk.inj (Option.some.inj (show some ((some 168 : Option Nat), (.inr 2 : Value ⊕ Nat)) = some (d, x) from hT))
      have hR := h.r
      refine wpOp_of _ rfl rfl (v_call 15 _ _ rfl _ Tryz.func15 (by kernel_rfl) (by kernel_rfl) #[.agg X.toArray] (by simp [veval_of (h.val 3 167 _ rfl (by decide))]; first | done | rfl | exact ⟨rfl, rfl⟩ | exact ⟨rfl, rfl, rfl⟩ | exact ⟨rfl, rfl, rfl, rfl⟩) ((k2 w' hR.1).mono ?_))
      rintro e y ⟨u, rfl, hu, kz⟩
      exact ⟨_, rfl, ⟨_, rfl, RK.step hR hVV kz hu⟩⟩
    | 5, hT =>
      obtain ⟨rfl, rfl⟩ := Prod.mk.inj (Option.some.inj (show some ((some 169 : Option Nat), (.inl (.pointer (some ⟨gp, 10, none⟩)) : Value ⊕ Nat)) = some (d, x) from hT))
      have hR := h.r
      exact wpOp_of _ rfl rfl (v_g31 (.tmp 15) 10 _ rfl (by decide) (veval_of ((h.ot 15 (by decide)).trans h15)) ⟨rfl, rfl⟩)
    | 6, hT =>
      obtain ⟨rfl, rfl⟩ := Prod.mk.inj (Option.some.inj (show some ((some 170 : Option Nat), (.inl (.slice sa sn sc) : Value ⊕ Nat)) = some (d, x) from hT))
      have hR := h.r
      exact wpOp_of _ rfl rfl (v_ld26 (.tmp 169) _ _ _ rfl (veval_of (h.val 5 169 _ rfl (by decide))) (hR.1.cell m0) ⟨rfl, rfl⟩)
    | 7, hT =>
      obtain ⟨rfl, rfl⟩ := Prod.mk.inj (Option.some.inj (show some ((some 171 : Option Nat), (.inr 3 : Value ⊕ Nat)) = some (d, x) from hT))
      have hR := h.r
      obtain ⟨u0, e0⟩ := h.has 0 0 rfl 13 (by kernel_rfl)
      have hv0 := hR.2 0 u0 e0
      obtain ⟨u1, e1⟩ := h.has 1 2 rfl 13 (by kernel_rfl)
      have hv1 := hR.2 1 u1 e1
      have q1 := x1 u1 _ hv1
      rw [q1] at e1 hv1
      obtain ⟨u2, e2⟩ := h.has 2 4 rfl 13 (by kernel_rfl)
      have hv2 := hR.2 2 u2 e2
      have q2 := x2 u2 _ hv2
      rw [q2] at e2 hv2
      refine wpOp_of _ rfl rfl (v_call 18 _ _ rfl _ Tryz.func18 (by kernel_rfl) (by kernel_rfl) #[u0, KV, SV, .slice sa sn sc] (by simp [veval_of (h.vale 0 164 0 rfl (by decide) e0), veval_of (h.vale 2 166 1 rfl (by decide) e1), veval_of (h.vale 4 168 2 rfl (by decide) e2), veval_of (h.val 6 170 _ rfl (by decide))]; first | done | rfl | exact ⟨rfl, rfl⟩ | exact ⟨rfl, rfl, rfl⟩ | exact ⟨rfl, rfl, rfl, rfl⟩) ((k3 w' u0 hR.1 hv0).mono ?_))
      rintro e y ⟨u, rfl, hu, kz⟩
      exact ⟨_, rfl, ⟨_, rfl, RK.step hR hVV kz hu⟩⟩
    | 8, hT =>
      obtain ⟨rfl, rfl⟩ := Prod.mk.inj (Option.some.inj (show some ((some 163 : Option Nat), (.inr 4 : Value ⊕ Nat)) = some (d, x) from hT))
      have hR := h.r
      obtain ⟨u3, e3⟩ := h.has 3 7 rfl 13 (by kernel_rfl)
      have hv3 := hR.2 3 u3 e3
      exact wpOp_of _ rfl rfl (v_move (.tmp 171) _ rfl (veval_of (h.vale 7 171 3 rfl (by decide) e3)) ⟨_, rfl, RK.step hR hVV (Keep.refl _) (z4 _ _ hv3)⟩)
    | 9, hT =>
      obtain ⟨rfl, rfl⟩ := Prod.mk.inj (Option.some.inj (show some ((some 172 : Option Nat), (.inr 5 : Value ⊕ Nat)) = some (d, x) from hT))
      have hR := h.r
      obtain ⟨u4, e4⟩ := h.has 4 8 rfl 13 (by kernel_rfl)
      have hv4 := hR.2 4 u4 e4
      obtain ⟨tv, tx, rfl, ht, hw⟩ := t5 u4 _ hv4
      exact wpOp_of _ rfl rfl (v_ext (.tmp 163) _ 0 tx rfl (veval_of (h.vale 8 163 4 rfl (by decide) e4)) ht ⟨_, rfl, RK.step hR hVV (Keep.refl _) hw⟩)
    | 10, hT =>
      obtain ⟨rfl, rfl⟩ := Prod.mk.inj (Option.some.inj (show some ((some 173 : Option Nat), (.inr 6 : Value ⊕ Nat)) = some (d, x) from hT))
      have hR := h.r
      obtain ⟨u4, e4⟩ := h.has 4 8 rfl 13 (by kernel_rfl)
      have hv4 := hR.2 4 u4 e4
      obtain ⟨tv, tx, rfl, ht, hw⟩ := t6 u4 _ hv4
      exact wpOp_of _ rfl rfl (v_ext (.tmp 163) _ 1 tx rfl (veval_of (h.vale 8 163 4 rfl (by decide) e4)) ht ⟨_, rfl, RK.step hR hVV (Keep.refl _) hw⟩)
    | 11, hT =>
      obtain ⟨rfl, rfl⟩ := Prod.mk.inj (Option.some.inj (show some ((some 16 : Option Nat), (.inr 7 : Value ⊕ Nat)) = some (d, x) from hT))
      have hR := h.r
      obtain ⟨u5, e5⟩ := h.has 5 9 rfl 13 (by kernel_rfl)
      have hv5 := hR.2 5 u5 e5
      exact wpOp_of _ rfl rfl (v_asg (.tmp 172) _ rfl (veval_of (h.vale 9 172 5 rfl (by decide) e5)) ⟨_, rfl, RK.step hR hVV (Keep.refl _) (z7 _ _ hv5)⟩)
    | 12, hT =>
      obtain ⟨rfl, rfl⟩ := Prod.mk.inj (Option.some.inj (show some ((some 11 : Option Nat), (.inr 8 : Value ⊕ Nat)) = some (d, x) from hT))
      have hR := h.r
      obtain ⟨u6, e6⟩ := h.has 6 10 rfl 13 (by kernel_rfl)
      have hv6 := hR.2 6 u6 e6
      exact wpOp_of _ rfl rfl (v_asg (.tmp 173) _ rfl (veval_of (h.vale 10 173 6 rfl (by decide) e6)) ⟨_, rfl, RK.step hR hVV (Keep.refl _) (z8 _ _ hv6)⟩)
    | i + 13, hT => simp [le30T] at hT
  · intro vs w' hv hR
    exact hend vs w' hR.2 (fun k hk => hv k (by simpa using hk)) hR.1
end Go.Proofs.Qxb6500771aGreat
