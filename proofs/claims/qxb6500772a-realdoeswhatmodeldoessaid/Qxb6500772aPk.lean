/- blastlaw: play's regions that call apply. -/
import Derived.Test.Qxb6500772aLa
namespace Go.Proofs.Qxb6500772a
open Go Go.RowKit Go.Qm
set_option linter.unusedVariables false
set_option linter.unusedSimpArgs false
def p12 : Array Oper := #[{ dst := some 54, op := Go.Op.fieldAddr 39 (Go.Operand.tmp 6) 0, type := 0, pos := "build.go:219", after := #[], guard := none }, { dst := some 55, op := Go.Op.load 33 (Go.Operand.tmp 54), type := 33, pos := "build.go:219", after := #[{ on := 0, ground := Go.Ground.data }], guard := none }, { dst := some 56, op := Go.Op.fieldAddr 39 (Go.Operand.tmp 6) 2, type := 0, pos := "build.go:219", after := #[], guard := none }, { dst := some 57, op := Go.Op.move (Go.Operand.tmp 3), type := 75, pos := "build.go:219", after := #[], guard := none }, { dst := some 58, op := Go.Op.nilCheck (Go.Operand.tmp 57), type := 0, pos := "build.go:219", after := #[{ on := 3, ground := Go.Ground.data }], guard := none }, { dst := some 59, op := Go.Op.fieldAddr 78 (Go.Operand.tmp 58) 4, type := 0, pos := "build.go:219", after := #[{ on := 4, ground := Go.Ground.data }], guard := none }, { dst := some 60, op := Go.Op.load 76 (Go.Operand.tmp 59), type := 76, pos := "build.go:219", after := #[{ on := 5, ground := Go.Ground.data }], guard := none }, { dst := some 61, op := Go.Op.call { callee := Go.Callee.value (Go.Operand.func 24), args := #[Go.Operand.tmp 55, Go.Operand.tmp 56, Go.Operand.tmp 60], argTypes := #[33, 59, 76] }, type := 0, pos := "build.go:219", after := #[{ on := 1, ground := Go.Ground.data }, { on := 2, ground := Go.Ground.data }, { on := 6, ground := Go.Ground.data }], guard := none }]
def p12T (gT gb : Nat) (v0 v1 v2 v3 v4 v5 v6 v7 v8 lv : Value) : List (Option Nat × (Value ⊕ Nat)) := [(some 54, .inl (.pointer (some ⟨gT, 0, none⟩))), (some 55, .inl (.agg #[v0, v1, v2, v3, v4, v5, v6, v7, v8])), (some 56, .inl (.pointer (some ⟨gT, 10, none⟩))), (some 57, .inl (.pointer (some ⟨gb, 0, none⟩))), (some 58, .inl (.pointer (some ⟨gb, 0, none⟩))), (some 59, .inl (.pointer (some ⟨gb, 10, none⟩))), (some 60, .inl (lv)), (some 61, .inr 0)]
theorem p12_chk : chk p12 p12.size = true := by kernel_rfl
set_option maxRecDepth 4000 in
set_option maxHeartbeats 4000000 in
theorem p12_c {Q : Exit → Act → World → Prop} {a0 : Act} {w : World} (gT gb : Nat) (v0 v1 v2 v3 v4 v5 v6 v7 v8 lv : Value) (hz0 : a0.tmps.size = 89) (h3 : a0.tmps[3]? = some (.pointer (some ⟨gb, 0, none⟩))) (h6 : a0.tmps[6]? = some (.pointer (some ⟨gT, 0, none⟩))) (c0 : w.drew.cell? ⟨gT, 0, none⟩ = some v0) (c1 : w.drew.cell? ⟨gT, 1, none⟩ = some v1) (c2 : w.drew.cell? ⟨gT, 2, none⟩ = some v2) (c3 : w.drew.cell? ⟨gT, 3, none⟩ = some v3) (c4 : w.drew.cell? ⟨gT, 4, none⟩ = some v4) (c5 : w.drew.cell? ⟨gT, 5, none⟩ = some v5) (c6 : w.drew.cell? ⟨gT, 6, none⟩ = some v6) (c7 : w.drew.cell? ⟨gT, 7, none⟩ = some v7) (c8 : w.drew.cell? ⟨gT, 8, none⟩ = some v8) (cl : w.drew.cell? ⟨gb, 10, none⟩ = some lv) (FO : World → Prop) (k0 : Calls Try.prog 24 #[.agg #[v0, v1, v2, v3, v4, v5, v6, v7, v8], .pointer (some ⟨gT, 10, none⟩), lv] w.drew fun e w' => e = .returned (.tuple #[]) ∧ FO w')
    (hend : ∀ vs w', FO w' → Q .normal (lay a0 (Lmx (p12T gT gb v0 v1 v2 v3 v4 v5 v6 v7 v8 lv) vs)) w') :
    (Code.region 12 p12 true).wp Try.prog Q a0 w := by
  refine wp_region_mx (by rfl) (p12T gT gb v0 v1 v2 v3 v4 v5 v6 v7 v8 lv) [54, 55, 56, 57, 58, 59, 60, 61] [none, none, none, none, none, none, none, some 0] [7] rfl rfl rfl p12_chk (by decide) (by decide) (by
    intro d hd
    rw [hz0]
    have : ∀ y ∈ [54, 55, 56, 57, 58, 59, 60, 61], y < 89 := by decide
    exact this _ hd) (fun vs w' => (vs 0 = none → w' = w.drew) ∧ (∀ u, vs 0 = some u → FO w')) ⟨fun _ => rfl, (fun u h => by cases h)⟩ ?_ ?_
  · intro i d x hT listed vs a w' h
    match i, hT with
    | 0, hT =>
      obtain ⟨rfl, rfl⟩ := Prod.mk.inj (Option.some.inj (show some ((some 54 : Option Nat), (.inl (.pointer (some ⟨gT, 0, none⟩)) : Value ⊕ Nat)) = some (d, x) from hT))
      exact wpOp_of _ rfl rfl (v_f39 (.tmp 6) 0 _ 0 rfl (by decide) (veval_of ((h.ot 6 (by decide)).trans h6)) ⟨rfl, rfl⟩)
    | 1, hT =>
      obtain ⟨rfl, rfl⟩ := Prod.mk.inj (Option.some.inj (show some ((some 55 : Option Nat), (.inl (.agg #[v0, v1, v2, v3, v4, v5, v6, v7, v8]) : Value ⊕ Nat)) = some (d, x) from hT))
      have hw := h.r.1 (h.later 0 7 rfl 8 (by kernel_rfl))
      subst hw
      exact wpOp_of _ rfl rfl (v_load33 (.tmp 54) _ _ _ _ _ _ _ _ _ _ rfl (veval_of (h.val 0 54 _ rfl (by decide))) c0 c1 c2 c3 c4 c5 c6 c7 c8 ⟨rfl, rfl⟩)
    | 2, hT =>
      obtain ⟨rfl, rfl⟩ := Prod.mk.inj (Option.some.inj (show some ((some 56 : Option Nat), (.inl (.pointer (some ⟨gT, 10, none⟩)) : Value ⊕ Nat)) = some (d, x) from hT))
      exact wpOp_of _ rfl rfl (v_f39 (.tmp 6) 2 _ 10 rfl (by decide) (veval_of ((h.ot 6 (by decide)).trans h6)) ⟨rfl, rfl⟩)
    | 3, hT =>
      obtain ⟨rfl, rfl⟩ := Prod.mk.inj (Option.some.inj (show some ((some 57 : Option Nat), (.inl (.pointer (some ⟨gb, 0, none⟩)) : Value ⊕ Nat)) = some (d, x) from hT))
      exact wpOp_of _ rfl rfl (v_move (.tmp 3) _ rfl (veval_of ((h.ot 3 (by decide)).trans h3)) ⟨rfl, rfl⟩)
    | 4, hT =>
      obtain ⟨rfl, rfl⟩ := Prod.mk.inj (Option.some.inj (show some ((some 58 : Option Nat), (.inl (.pointer (some ⟨gb, 0, none⟩)) : Value ⊕ Nat)) = some (d, x) from hT))
      exact wpOp_of _ rfl rfl (v_nil (.tmp 57) _ rfl (veval_of (h.val 3 57 _ rfl (by decide))) ⟨rfl, rfl⟩)
    | 5, hT =>
      obtain ⟨rfl, rfl⟩ := Prod.mk.inj (Option.some.inj (show some ((some 59 : Option Nat), (.inl (.pointer (some ⟨gb, 10, none⟩)) : Value ⊕ Nat)) = some (d, x) from hT))
      exact wpOp_of _ rfl rfl (v_f78 (.tmp 58) 4 _ 10 rfl (by decide) (veval_of (h.val 4 58 _ rfl (by decide))) ⟨rfl, rfl⟩)
    | 6, hT =>
      obtain ⟨rfl, rfl⟩ := Prod.mk.inj (Option.some.inj (show some ((some 60 : Option Nat), (.inl (lv) : Value ⊕ Nat)) = some (d, x) from hT))
      have hw := h.r.1 (h.later 0 7 rfl 8 (by kernel_rfl))
      subst hw
      exact wpOp_of _ rfl rfl (v_load76 (.tmp 59) _ _ _ rfl (veval_of (h.val 5 59 _ rfl (by decide))) cl ⟨rfl, rfl⟩)
    | 7, hT =>
      obtain ⟨rfl, rfl⟩ := Prod.mk.inj (Option.some.inj (show some ((some 61 : Option Nat), (.inr 0 : Value ⊕ Nat)) = some (d, x) from hT))
      have hw := h.r.1 (h.not 0 rfl)
      subst hw
      refine wpOp_of _ rfl rfl (v_call 24 _ _ rfl _ Try.func24 (by kernel_rfl) (by kernel_rfl) #[.agg #[v0, v1, v2, v3, v4, v5, v6, v7, v8], .pointer (some ⟨gT, 10, none⟩), lv] (by simp [veval_of (h.val 1 55 _ rfl (by decide)), veval_of (h.val 2 56 _ rfl (by decide)), veval_of (h.val 6 60 _ rfl (by decide))]; first | done | rfl | exact ⟨rfl, rfl⟩ | exact ⟨rfl, rfl, rfl⟩) (k0.mono ?_))
      rintro e y ⟨rfl, hy⟩
      exact ⟨_, rfl, _, rfl, (fun e => by cases e), fun _ _ => hy⟩
    | i + 8, hT => simp [p12T] at hT
  · intro vs w' hv hR
    obtain ⟨u, e⟩ := hv 0 (by decide)
    exact hend vs w' (hR.2 u e)
def p14 : Array Oper := #[{ dst := some 68, op := Go.Op.fieldAddr 39 (Go.Operand.tmp 6) 0, type := 0, pos := "build.go:221", after := #[], guard := none }, { dst := some 69, op := Go.Op.load 33 (Go.Operand.tmp 68), type := 33, pos := "build.go:221", after := #[{ on := 0, ground := Go.Ground.data }], guard := none }, { dst := some 70, op := Go.Op.fieldAddr 39 (Go.Operand.tmp 6) 3, type := 0, pos := "build.go:221", after := #[], guard := none }, { dst := some 71, op := Go.Op.move (Go.Operand.tmp 3), type := 75, pos := "build.go:221", after := #[], guard := none }, { dst := some 72, op := Go.Op.nilCheck (Go.Operand.tmp 71), type := 0, pos := "build.go:221", after := #[{ on := 3, ground := Go.Ground.data }], guard := none }, { dst := some 73, op := Go.Op.fieldAddr 78 (Go.Operand.tmp 72) 5, type := 0, pos := "build.go:221", after := #[{ on := 4, ground := Go.Ground.data }], guard := none }, { dst := some 74, op := Go.Op.load 76 (Go.Operand.tmp 73), type := 76, pos := "build.go:221", after := #[{ on := 5, ground := Go.Ground.data }], guard := none }, { dst := some 75, op := Go.Op.call { callee := Go.Callee.value (Go.Operand.func 24), args := #[Go.Operand.tmp 69, Go.Operand.tmp 70, Go.Operand.tmp 74], argTypes := #[33, 59, 76] }, type := 0, pos := "build.go:221", after := #[{ on := 1, ground := Go.Ground.data }, { on := 2, ground := Go.Ground.data }, { on := 6, ground := Go.Ground.data }], guard := none }]
def p14T (gT gb : Nat) (v0 v1 v2 v3 v4 v5 v6 v7 v8 lv : Value) : List (Option Nat × (Value ⊕ Nat)) := [(some 68, .inl (.pointer (some ⟨gT, 0, none⟩))), (some 69, .inl (.agg #[v0, v1, v2, v3, v4, v5, v6, v7, v8])), (some 70, .inl (.pointer (some ⟨gT, 12, none⟩))), (some 71, .inl (.pointer (some ⟨gb, 0, none⟩))), (some 72, .inl (.pointer (some ⟨gb, 0, none⟩))), (some 73, .inl (.pointer (some ⟨gb, 11, none⟩))), (some 74, .inl (lv)), (some 75, .inr 0)]
theorem p14_chk : chk p14 p14.size = true := by kernel_rfl
set_option maxRecDepth 4000 in
set_option maxHeartbeats 4000000 in
theorem p14_c {Q : Exit → Act → World → Prop} {a0 : Act} {w : World} (gT gb : Nat) (v0 v1 v2 v3 v4 v5 v6 v7 v8 lv : Value) (hz0 : a0.tmps.size = 89) (h3 : a0.tmps[3]? = some (.pointer (some ⟨gb, 0, none⟩))) (h6 : a0.tmps[6]? = some (.pointer (some ⟨gT, 0, none⟩))) (c0 : w.drew.cell? ⟨gT, 0, none⟩ = some v0) (c1 : w.drew.cell? ⟨gT, 1, none⟩ = some v1) (c2 : w.drew.cell? ⟨gT, 2, none⟩ = some v2) (c3 : w.drew.cell? ⟨gT, 3, none⟩ = some v3) (c4 : w.drew.cell? ⟨gT, 4, none⟩ = some v4) (c5 : w.drew.cell? ⟨gT, 5, none⟩ = some v5) (c6 : w.drew.cell? ⟨gT, 6, none⟩ = some v6) (c7 : w.drew.cell? ⟨gT, 7, none⟩ = some v7) (c8 : w.drew.cell? ⟨gT, 8, none⟩ = some v8) (cl : w.drew.cell? ⟨gb, 11, none⟩ = some lv) (FO : World → Prop) (k0 : Calls Try.prog 24 #[.agg #[v0, v1, v2, v3, v4, v5, v6, v7, v8], .pointer (some ⟨gT, 12, none⟩), lv] w.drew fun e w' => e = .returned (.tuple #[]) ∧ FO w')
    (hend : ∀ vs w', FO w' → Q .normal (lay a0 (Lmx (p14T gT gb v0 v1 v2 v3 v4 v5 v6 v7 v8 lv) vs)) w') :
    (Code.region 14 p14 true).wp Try.prog Q a0 w := by
  refine wp_region_mx (by rfl) (p14T gT gb v0 v1 v2 v3 v4 v5 v6 v7 v8 lv) [68, 69, 70, 71, 72, 73, 74, 75] [none, none, none, none, none, none, none, some 0] [7] rfl rfl rfl p14_chk (by decide) (by decide) (by
    intro d hd
    rw [hz0]
    have : ∀ y ∈ [68, 69, 70, 71, 72, 73, 74, 75], y < 89 := by decide
    exact this _ hd) (fun vs w' => (vs 0 = none → w' = w.drew) ∧ (∀ u, vs 0 = some u → FO w')) ⟨fun _ => rfl, (fun u h => by cases h)⟩ ?_ ?_
  · intro i d x hT listed vs a w' h
    match i, hT with
    | 0, hT =>
      obtain ⟨rfl, rfl⟩ := Prod.mk.inj (Option.some.inj (show some ((some 68 : Option Nat), (.inl (.pointer (some ⟨gT, 0, none⟩)) : Value ⊕ Nat)) = some (d, x) from hT))
      exact wpOp_of _ rfl rfl (v_f39 (.tmp 6) 0 _ 0 rfl (by decide) (veval_of ((h.ot 6 (by decide)).trans h6)) ⟨rfl, rfl⟩)
    | 1, hT =>
      obtain ⟨rfl, rfl⟩ := Prod.mk.inj (Option.some.inj (show some ((some 69 : Option Nat), (.inl (.agg #[v0, v1, v2, v3, v4, v5, v6, v7, v8]) : Value ⊕ Nat)) = some (d, x) from hT))
      have hw := h.r.1 (h.later 0 7 rfl 8 (by kernel_rfl))
      subst hw
      exact wpOp_of _ rfl rfl (v_load33 (.tmp 68) _ _ _ _ _ _ _ _ _ _ rfl (veval_of (h.val 0 68 _ rfl (by decide))) c0 c1 c2 c3 c4 c5 c6 c7 c8 ⟨rfl, rfl⟩)
    | 2, hT =>
      obtain ⟨rfl, rfl⟩ := Prod.mk.inj (Option.some.inj (show some ((some 70 : Option Nat), (.inl (.pointer (some ⟨gT, 12, none⟩)) : Value ⊕ Nat)) = some (d, x) from hT))
      exact wpOp_of _ rfl rfl (v_f39 (.tmp 6) 3 _ 12 rfl (by decide) (veval_of ((h.ot 6 (by decide)).trans h6)) ⟨rfl, rfl⟩)
    | 3, hT =>
      obtain ⟨rfl, rfl⟩ := Prod.mk.inj (Option.some.inj (show some ((some 71 : Option Nat), (.inl (.pointer (some ⟨gb, 0, none⟩)) : Value ⊕ Nat)) = some (d, x) from hT))
      exact wpOp_of _ rfl rfl (v_move (.tmp 3) _ rfl (veval_of ((h.ot 3 (by decide)).trans h3)) ⟨rfl, rfl⟩)
    | 4, hT =>
      obtain ⟨rfl, rfl⟩ := Prod.mk.inj (Option.some.inj (show some ((some 72 : Option Nat), (.inl (.pointer (some ⟨gb, 0, none⟩)) : Value ⊕ Nat)) = some (d, x) from hT))
      exact wpOp_of _ rfl rfl (v_nil (.tmp 71) _ rfl (veval_of (h.val 3 71 _ rfl (by decide))) ⟨rfl, rfl⟩)
    | 5, hT =>
      obtain ⟨rfl, rfl⟩ := Prod.mk.inj (Option.some.inj (show some ((some 73 : Option Nat), (.inl (.pointer (some ⟨gb, 11, none⟩)) : Value ⊕ Nat)) = some (d, x) from hT))
      exact wpOp_of _ rfl rfl (v_f78 (.tmp 72) 5 _ 11 rfl (by decide) (veval_of (h.val 4 72 _ rfl (by decide))) ⟨rfl, rfl⟩)
    | 6, hT =>
      obtain ⟨rfl, rfl⟩ := Prod.mk.inj (Option.some.inj (show some ((some 74 : Option Nat), (.inl (lv) : Value ⊕ Nat)) = some (d, x) from hT))
      have hw := h.r.1 (h.later 0 7 rfl 8 (by kernel_rfl))
      subst hw
      exact wpOp_of _ rfl rfl (v_load76 (.tmp 73) _ _ _ rfl (veval_of (h.val 5 73 _ rfl (by decide))) cl ⟨rfl, rfl⟩)
    | 7, hT =>
      obtain ⟨rfl, rfl⟩ := Prod.mk.inj (Option.some.inj (show some ((some 75 : Option Nat), (.inr 0 : Value ⊕ Nat)) = some (d, x) from hT))
      have hw := h.r.1 (h.not 0 rfl)
      subst hw
      refine wpOp_of _ rfl rfl (v_call 24 _ _ rfl _ Try.func24 (by kernel_rfl) (by kernel_rfl) #[.agg #[v0, v1, v2, v3, v4, v5, v6, v7, v8], .pointer (some ⟨gT, 12, none⟩), lv] (by simp [veval_of (h.val 1 69 _ rfl (by decide)), veval_of (h.val 2 70 _ rfl (by decide)), veval_of (h.val 6 74 _ rfl (by decide))]; first | done | rfl | exact ⟨rfl, rfl⟩ | exact ⟨rfl, rfl, rfl⟩) (k0.mono ?_))
      rintro e y ⟨rfl, hy⟩
      exact ⟨_, rfl, _, rfl, (fun e => by cases e), fun _ _ => hy⟩
    | i + 8, hT => simp [p14T] at hT
  · intro vs w' hv hR
    obtain ⟨u, e⟩ := hv 0 (by decide)
    exact hend vs w' (hR.2 u e)
end Go.Proofs.Qxb6500772a
