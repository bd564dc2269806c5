/- profilem: Encrypt's first region. -/
import Derived.Test.Qxb6500771aGreatQb
namespace Go.Proofs.Qxb6500771aGreat
open Go Go.RowKit Go.Qm Go.Qv
set_option linter.unusedVariables false
set_option linter.unusedSimpArgs false
theorem s123' : (Tryz.prog.info? 123).map (·.size) = some 2 := by kernel_rfl
def en1 : Array Oper := #[{ dst := some 14, op := Go.Op.fieldAddr 43 (Go.Operand.tmp 4) 0, type := 0, pos := "profilem.go:115", after := #[], guard := none }, { dst := some 15, op := Go.Op.load 25 (Go.Operand.tmp 14), type := 25, pos := "profilem.go:115", after := #[{ on := 0, ground := Go.Ground.data }], guard := none }, { dst := some 16, op := Go.Op.call { callee := Go.Callee.value (Go.Operand.func 76), args := #[Go.Operand.tmp 15], argTypes := #[25] }, type := 121, pos := "profilem.go:115", after := #[{ on := 1, ground := Go.Ground.data }], guard := none }, { dst := some 17, op := Go.Op.load 43 (Go.Operand.tmp 4), type := 43, pos := "profilem.go:115", after := #[], guard := none }, { dst := some 18, op := Go.Op.move (Go.Operand.tmp 1), type := 27, pos := "profilem.go:115", after := #[], guard := none }, { dst := some 19, op := Go.Op.call { callee := Go.Callee.value (Go.Operand.func 72), args := #[Go.Operand.tmp 17, Go.Operand.tmp 18, Go.Operand.const (Go.Value.int Go.IntKind.u8 170)], argTypes := #[43, 27, 5] }, type := 26, pos := "profilem.go:115", after := #[{ on := 3, ground := Go.Ground.data }, { on := 4, ground := Go.Ground.data }, { on := 2, ground := Go.Ground.chain }], guard := none }, { dst := some 20, op := Go.Op.call { callee := Go.Callee.value (Go.Operand.func 75), args := #[Go.Operand.tmp 16, Go.Operand.tmp 19], argTypes := #[121, 26] }, type := 123, pos := "profilem.go:115", after := #[{ on := 2, ground := Go.Ground.data }, { on := 5, ground := Go.Ground.data }, { on := 5, ground := Go.Ground.chain }], guard := none }, { dst := some 9, op := Go.Op.alloc 123, type := 0, pos := "profilem.go:115", after := #[], guard := none }, { dst := none, op := Go.Op.store 123 (Go.Operand.tmp 9) (Go.Operand.tmp 20), type := 0, pos := "profilem.go:115", after := #[{ on := 7, ground := Go.Ground.data }, { on := 6, ground := Go.Ground.data }, { on := 6, ground := Go.Ground.chain }, { on := 0, ground := Go.Ground.phase }, { on := 1, ground := Go.Ground.phase }, { on := 2, ground := Go.Ground.phase }, { on := 3, ground := Go.Ground.phase }, { on := 4, ground := Go.Ground.phase }, { on := 5, ground := Go.Ground.phase }, { on := 6, ground := Go.Ground.phase }, { on := 7, ground := Go.Ground.phase }], guard := none }]
def en1T (g4 : Nat) (e : Int) (kv : Value) (us : Nat) : List (Option Nat × (Value ⊕ Nat)) := [(some 14, .inl (.pointer (some ⟨g4, 0, none⟩))), (some 15, .inl (.int .i32 e)), (some 16, .inr 0), (some 17, .inl (.agg #[.int .i32 e, kv])), (some 18, .inl (.int .u32 us)), (some 19, .inr 1), (some 20, .inr 2), (some 9, .inr 3), (none, .inr 4)]
theorem en1_chk : chk en1 en1.size = true := by kernel_rfl
set_option maxRecDepth 4000 in
set_option maxHeartbeats 4000000 in
theorem en1_c {Q : Exit → Act → World → Prop} {a0 : Act} {w : World} (g4 : Nat) (e : Int) (kv : Value) (us : Nat) (al : Int) (hz0 : a0.tmps.size = 51) (h1 : a0.tmps[1]? = some (.int .u32 us)) (h4 : a0.tmps[4]? = some (.pointer (some ⟨g4, 0, none⟩))) (m0 : w.drew.cell? ⟨g4, 0, none⟩ = some (.int .i32 e)) (m1 : w.drew.cell? ⟨g4, 1, none⟩ = some kv)
    (VV : Nat → Value → World → Prop) (hVV : ∀ k u Z Z', Keep Z Z' → VV k u Z → VV k u Z') (hVS : ∀ u Z p cs ds, Arr Z p 123 cs → w.drew.heap.size ≤ p → VV 2 u Z → VV 2 u (Z.setRow p ds))
    (k0 : ∀ Z, Keep w.drew Z → Calls Tryz.prog 76 #[.int .i32 e] Z fun x w' => ∃ u, x = .returned u ∧ VV 0 u w' ∧ Keep Z w') (x0 : ∀ u Z, VV 0 u Z → u = .int .i64 al)
    (k1 : ∀ Z, Keep w.drew Z → Calls Tryz.prog 72 #[.agg #[.int .i32 e, kv], .int .u32 us, .int .u8 170] Z fun x w' => ∃ u, x = .returned u ∧ VV 1 u w' ∧ Keep Z w')
    (k2 : ∀ Z u1, Keep w.drew Z → VV 1 u1 Z → Calls Tryz.prog 75 #[.int .i64 al, u1] Z fun x w' => ∃ u, x = .returned u ∧ VV 2 u w' ∧ Keep Z w') (x2 : ∀ u Z, VV 2 u Z → ∃ ds : List Value, u = .agg ds.toArray ∧ ds.length = 2 ∧ (ds.toArray).all (·.oneCell') = true)
    (hend : ∀ vs w' p ds, vs 3 = some (.pointer (some ⟨p, 0, none⟩)) → w.drew.heap.size ≤ p → Arr w' p 123 ds → VV 2 (.agg ds.toArray) w' → Keep w.drew w' → Q .normal (lay a0 (Lmx (en1T g4 e kv us) vs)) w') :
    (Code.region 1 en1 true).wp Tryz.prog Q a0 w := by
  refine wp_region_mx (by rfl) (en1T g4 e kv us) [14, 15, 16, 17, 18, 19, 20, 9] [none, none, some 0, none, none, some 1, some 2, some 3, some 4] [2, 5, 6, 7, 8] rfl rfl rfl en1_chk (by decide) (by decide) (by
    intro d hd
    rw [hz0]
    have : ∀ y ∈ [14, 15, 16, 17, 18, 19, 20, 9], y < 51 := by decide
    exact this _ hd) (RX w.drew VV 123 2 3 4 2) RX.start ?_ ?_
  · intro i d x hT listed vs a w' h
    match i, hT with
    | 0, hT =>
      obtain ⟨rfl, rfl⟩ := Prod.mk.inj (Option.some.inj (show some ((some 14 : Option Nat), (.inl (.pointer (some ⟨g4, 0, none⟩)) : Value ⊕ Nat)) = some (d, x) from hT))
      exact wpOp_of _ rfl rfl (v_g43 (.tmp 4) 0 _ 0 rfl (by decide) (veval_of ((h.ot 4 (by decide)).trans h4)) ⟨rfl, rfl⟩)
    | 1, hT =>
      obtain ⟨rfl, rfl⟩ := Prod.mk.inj (Option.some.inj (show some ((some 15 : Option Nat), (.inl (.int .i32 e) : Value ⊕ Nat)) = some (d, x) from hT))
      exact wpOp_of _ rfl rfl (v_ld25 (.tmp 14) _ _ _ rfl (veval_of (h.val 0 14 _ rfl (by decide))) (h.r.kp.cell m0) ⟨rfl, rfl⟩)
    | 2, hT =>
      obtain ⟨rfl, rfl⟩ := Prod.mk.inj (Option.some.inj (show some ((some 16 : Option Nat), (.inr 0 : Value ⊕ Nat)) = some (d, x) from hT))
      refine wpOp_of _ rfl rfl (v_call 76 _ _ rfl _ Tryz.func76 (by kernel_rfl) (by kernel_rfl) #[.int .i32 e] (by simp [veval_of (h.val 1 15 _ rfl (by decide))]; first | done | rfl) ((k0 w' h.r.kp).mono ?_))
      rintro x y ⟨u, rfl, hu, kz⟩
      exact ⟨_, rfl, _, rfl, h.r.call hVV (by decide) (by decide) (Or.inl (by decide)) kz hu⟩
    | 3, hT =>
      obtain ⟨rfl, rfl⟩ := Prod.mk.inj (Option.some.inj (show some ((some 17 : Option Nat), (.inl (.agg #[.int .i32 e, kv]) : Value ⊕ Nat)) = some (d, x) from hT))
      exact wpOp_of _ rfl rfl (v_ld43 (.tmp 4) _ _ _ rfl (veval_of ((h.ot 4 (by decide)).trans h4)) (h.r.kp.cell m0) (h.r.kp.cell m1) ⟨rfl, rfl⟩)
    | 4, hT =>
      obtain ⟨rfl, rfl⟩ := Prod.mk.inj (Option.some.inj (show some ((some 18 : Option Nat), (.inl (.int .u32 us) : Value ⊕ Nat)) = some (d, x) from hT))
      exact wpOp_of _ rfl rfl (v_move (.tmp 1) _ rfl (veval_of ((h.ot 1 (by decide)).trans h1)) ⟨rfl, rfl⟩)
    | 5, hT =>
      obtain ⟨rfl, rfl⟩ := Prod.mk.inj (Option.some.inj (show some ((some 19 : Option Nat), (.inr 1 : Value ⊕ Nat)) = some (d, x) from hT))
      refine wpOp_of _ rfl rfl (v_call 72 _ _ rfl _ Tryz.func72 (by kernel_rfl) (by kernel_rfl) #[.agg #[.int .i32 e, kv], .int .u32 us, .int .u8 170] (by simp [veval_of (h.val 3 17 _ rfl (by decide)), veval_of (h.val 4 18 _ rfl (by decide))]; first | done | rfl | exact ⟨rfl, rfl⟩ | exact ⟨rfl, rfl, rfl⟩) ((k1 w' h.r.kp).mono ?_))
      rintro x y ⟨u, rfl, hu, kz⟩
      exact ⟨_, rfl, _, rfl, h.r.call hVV (by decide) (by decide) (Or.inl (by decide)) kz hu⟩
    | 6, hT =>
      obtain ⟨rfl, rfl⟩ := Prod.mk.inj (Option.some.inj (show some ((some 20 : Option Nat), (.inr 2 : Value ⊕ Nat)) = some (d, x) from hT))
      have hS := h.later 4 8 rfl 9 (by kernel_rfl)
      obtain ⟨u0, e0⟩ := h.has 0 2 rfl 9 (by kernel_rfl)
      have hv0 := h.r.vv 0 u0 (by decide) (by decide) (Or.inr hS) e0
      have q0 := x0 u0 _ hv0
      subst q0
      obtain ⟨u1, e1⟩ := h.has 1 5 rfl 9 (by kernel_rfl)
      have hv1 := h.r.vv 1 u1 (by decide) (by decide) (Or.inr hS) e1
      refine wpOp_of _ rfl rfl (v_call 75 _ _ rfl _ Tryz.func75 (by kernel_rfl) (by kernel_rfl) #[.int .i64 al, u1] (by simp [veval_of (h.vale 2 16 0 rfl (by decide) e0), veval_of (h.vale 5 19 1 rfl (by decide) e1)]; first | done | rfl | exact ⟨rfl, rfl⟩) ((k2 w' u1 h.r.kp hv1).mono ?_))
      rintro x y ⟨u, rfl, hu, kz⟩
      exact ⟨_, rfl, _, rfl, h.r.call hVV (by decide) (by decide) (Or.inr hS) kz hu⟩
    | 7, hT =>
      obtain ⟨rfl, rfl⟩ := Prod.mk.inj (Option.some.inj (show some ((some 9 : Option Nat), (.inr 3 : Value ⊕ Nat)) = some (d, x) from hT))
      have hS := h.later 4 8 rfl 9 (by kernel_rfl)
      exact wpOp_of _ rfl rfl (v_al123 rfl ⟨_, rfl, h.r.alloc hVV (by decide) hS _ rfl⟩)
    | 8, hT =>
      obtain ⟨rfl, rfl⟩ := Prod.mk.inj (Option.some.inj (show some ((none : Option Nat), (.inr 4 : Value ⊕ Nat)) = some (d, x) from hT))
      obtain ⟨u2, e2⟩ := h.has 2 6 rfl 9 (by kernel_rfl)
      have hv2 := h.r.vv 2 u2 (by decide) (by decide) (Or.inl rfl) e2
      obtain ⟨ds, rfl, hd2, hd1⟩ := x2 u2 _ hv2
      obtain ⟨u3, e3⟩ := h.has 3 7 rfl 9 (by kernel_rfl)
      obtain ⟨p, cs, rfl, hp0, ha, hcs, -⟩ := h.r.bx u3 e3
      exact wpOp_of _ rfl rfl (wp_store_row 123 (.tmp 9) (.tmp 20) rfl p ds.toArray (veval_of (h.vale 7 9 3 rfl (by decide) e3)) (veval_of (h.vale 6 20 2 rfl (by decide) e2)) 123 cs.toArray ha (by rw [List.size_toArray, hd2]; exact s123') (by rw [List.size_toArray, List.size_toArray, hcs, hd2]) hd1 ⟨undef, rfl, h.r.store hVS (by decide) (by decide) e3 hp0 ha e2 hd2 _⟩)
    | i + 9, hT => simp [en1T] at hT
  · intro vs w' hv hR
    obtain ⟨u2, e2⟩ := hv 2 (by decide)
    obtain ⟨u3, e3⟩ := hv 3 (by decide)
    obtain ⟨u4, e4⟩ := hv 4 (by decide)
    obtain ⟨p, cs, rfl, hp0, ha, hcs, hc⟩ := hR.bx u3 e3
    have hc9 := hc (by rw [e4]; rfl)
    have hv2 := hR.vv 2 _ (by decide) (by decide) (Or.inl rfl) hc9
    exact hend vs w' p cs e3 hp0 ha hv2 hR.kp
end Go.Proofs.Qxb6500771aGreat
