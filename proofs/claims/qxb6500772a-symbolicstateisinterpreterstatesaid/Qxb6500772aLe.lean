/- blastlaw: a region of SymbolicStateIsInterpreterState, once more. -/
import Derived.Test.Qxb6500772aLa
namespace Go.Proofs.Qxb6500772a
open Go Go.RowKit Go.Qm
set_option linter.unusedVariables false
set_option linter.unusedSimpArgs false
def z15 : Array Oper := #[{ dst := some 62, op := Go.Op.fieldAddr 39 (Go.Operand.tmp 3) 0, type := 0, pos := "laws.go:45", after := #[], guard := none }, { dst := some 63, op := Go.Op.load 33 (Go.Operand.tmp 62), type := 33, pos := "laws.go:45", after := #[{ on := 0, ground := Go.Ground.data }], guard := none }, { dst := some 64, op := Go.Op.fieldAddr 39 (Go.Operand.tmp 3) 0, type := 0, pos := "laws.go:45", after := #[], guard := none }, { dst := some 65, op := Go.Op.fieldAddr 33 (Go.Operand.tmp 64) 1, type := 0, pos := "laws.go:45", after := #[{ on := 2, ground := Go.Ground.data }], guard := none }, { dst := some 66, op := Go.Op.load 25 (Go.Operand.tmp 65), type := 25, pos := "laws.go:45", after := #[{ on := 3, ground := Go.Ground.data }], guard := none }, { dst := some 67, op := Go.Op.move (Go.Operand.tmp 8), type := 3, pos := "laws.go:45", after := #[], guard := none }, { dst := some 68, op := Go.Op.binOp Go.BinOp.sub 3 (Go.Operand.tmp 67) (Go.Operand.const (Go.Value.int Go.IntKind.i64 1)) 3, type := 3, pos := "laws.go:45", after := #[{ on := 5, ground := Go.Ground.data }], guard := none }, { dst := some 69, op := Go.Op.move (Go.Operand.tmp 8), type := 3, pos := "laws.go:45", after := #[], guard := none }, { dst := some 70, op := Go.Op.slice 25 (Go.Operand.tmp 66) (some (Go.Operand.tmp 68)) (some (Go.Operand.tmp 69)) none, type := 25, pos := "laws.go:45", after := #[{ on := 4, ground := Go.Ground.data }, { on := 6, ground := Go.Ground.data }, { on := 7, ground := Go.Ground.data }], guard := none }, { dst := some 71, op := Go.Op.call { callee := Go.Callee.value (Go.Operand.func 12), args := #[Go.Operand.tmp 63, Go.Operand.tmp 70, Go.Operand.tmp 7], argTypes := #[33, 25, 59] }, type := 0, pos := "laws.go:45", after := #[{ on := 1, ground := Go.Ground.data }, { on := 8, ground := Go.Ground.data }], guard := none }]
def z15T (gT gS gc ga g7 am ac n pn pc bb bo bn bc kn kc sn sc tn tc : Nat) (pa ka sa ta : Option Addr) (f : EF) (b0 b1 : Bool) (vv : Value) : List (Option Nat × (Value ⊕ Nat)) := [(some 62, .inl (.pointer (some ⟨gT, 0, none⟩))), (some 63, .inl (.agg #[.slice pa pn pc, .slice (some ⟨bb, bo, none⟩) bn bc, .int .i64 f.k, .int .i64 f.w, .int .i64 f.o, .int .u64 ((f.v : Nat) : Int), .int .i64 f.c, .int .i64 f.l, .slice ka kn kc])), (some 64, .inl (.pointer (some ⟨gT, 0, none⟩))), (some 65, .inl (.pointer (some ⟨gT, 1, none⟩))), (some 66, .inl (.slice (some ⟨bb, bo, none⟩) bn bc)), (some 67, .inl (.int .i64 (((n + 1 : Nat)) : Int))), (some 68, .inl (.int .i64 ((n : Nat) : Int))), (some 69, .inl (.int .i64 (((n + 1 : Nat)) : Int))), (some 70, .inl (.slice (some ⟨bb, bo + n * 8, none⟩) 1 (bc - n))), (some 71, .inr 0)]
theorem z15_chk : chk z15 z15.size = true := by kernel_rfl
set_option maxRecDepth 4000 in
set_option maxHeartbeats 4000000 in
theorem z15_c {Q : Exit → Act → World → Prop} {a0 : Act} {w : World} (gT gS gc ga g7 am ac n pn pc bb bo bn bc kn kc sn sc tn tc : Nat) (pa ka sa ta : Option Addr) (f : EF) (b0 b1 : Bool) (vv : Value) (hz0 : a0.tmps.size = 91) (h3 : a0.tmps[3]? = some (.pointer (some ⟨gT, 0, none⟩))) (h7 : a0.tmps[7]? = some (.pointer (some ⟨g7, 0, none⟩))) (h8 : a0.tmps[8]? = some (.int .i64 (((n + 1 : Nat)) : Int))) (q33_0 : w.drew.cell? ⟨gT, 0, none⟩ = some (.slice pa pn pc)) (q33_1 : w.drew.cell? ⟨gT, 1, none⟩ = some (.slice (some ⟨bb, bo, none⟩) bn bc)) (q33_2 : w.drew.cell? ⟨gT, 2, none⟩ = some (.int .i64 f.k)) (q33_3 : w.drew.cell? ⟨gT, 3, none⟩ = some (.int .i64 f.w)) (q33_4 : w.drew.cell? ⟨gT, 4, none⟩ = some (.int .i64 f.o)) (q33_5 : w.drew.cell? ⟨gT, 5, none⟩ = some (.int .u64 ((f.v : Nat) : Int))) (q33_6 : w.drew.cell? ⟨gT, 6, none⟩ = some (.int .i64 f.c)) (q33_7 : w.drew.cell? ⟨gT, 7, none⟩ = some (.int .i64 f.l)) (q33_8 : w.drew.cell? ⟨gT, 8, none⟩ = some (.slice ka kn kc)) (hn1 : n < bn) (hn2 : bn ≤ bc) (hn3 : bc ≤ 9223372036854775807) (hn4 : n + 1 ≤ 1000000) (FO : World → Prop) (k0 : Calls Try.prog 12 #[.agg #[.slice pa pn pc, .slice (some ⟨bb, bo, none⟩) bn bc, .int .i64 f.k, .int .i64 f.w, .int .i64 f.o, .int .u64 ((f.v : Nat) : Int), .int .i64 f.c, .int .i64 f.l, .slice ka kn kc], .slice (some ⟨bb, bo + n * 8, none⟩) 1 (bc - n), .pointer (some ⟨g7, 0, none⟩)] w.drew fun e w' => e = .returned (.tuple #[]) ∧ FO w')
    (hend : ∀ vs w', FO w' → Q .normal (lay a0 (Lmx (z15T gT gS gc ga g7 am ac n pn pc bb bo bn bc kn kc sn sc tn tc pa ka sa ta f b0 b1 vv) vs)) w') :
    (Code.region 15 z15 true).wp Try.prog Q a0 w := by
  refine wp_region_mx (by rfl) (z15T gT gS gc ga g7 am ac n pn pc bb bo bn bc kn kc sn sc tn tc pa ka sa ta f b0 b1 vv) [62, 63, 64, 65, 66, 67, 68, 69, 70, 71] [none, none, none, none, none, none, none, none, none, some 0] [9] rfl rfl rfl z15_chk (by decide) (by decide) (by
    intro d hd
    rw [hz0]
    have : ∀ y ∈ [62, 63, 64, 65, 66, 67, 68, 69, 70, 71], y < 91 := by decide
    exact this _ hd) (fun vs w' => (vs 0 = none → w' = w.drew) ∧ (∀ u, vs 0 = some u → FO w')) ⟨fun _ => rfl, (fun u h => by cases h)⟩ ?_ ?_
  · intro i d x hT listed vs a w' h
    match i, hT with
    | 0, hT =>
      obtain ⟨rfl, rfl⟩ := Prod.mk.inj (Option.some.inj (show some ((some 62 : Option Nat), (.inl (.pointer (some ⟨gT, 0, none⟩)) : Value ⊕ Nat)) = some (d, x) from hT))
      exact wpOp_of _ rfl rfl (v_f39 (.tmp 3) 0 _ 0 rfl (by decide) (veval_of ((h.ot 3 (by decide)).trans h3)) ⟨rfl, rfl⟩)
    | 1, hT =>
      obtain ⟨rfl, rfl⟩ := Prod.mk.inj (Option.some.inj (show some ((some 63 : Option Nat), (.inl (.agg #[.slice pa pn pc, .slice (some ⟨bb, bo, none⟩) bn bc, .int .i64 f.k, .int .i64 f.w, .int .i64 f.o, .int .u64 ((f.v : Nat) : Int), .int .i64 f.c, .int .i64 f.l, .slice ka kn kc]) : Value ⊕ Nat)) = some (d, x) from hT))
      have hw := h.r.1 (h.later 0 9 rfl 10 (by kernel_rfl))
      subst hw
      exact wpOp_of _ rfl rfl (v_load33 (.tmp 62) _ _ _ _ _ _ _ _ _ _ rfl (veval_of (h.val 0 62 _ rfl (by decide))) q33_0 q33_1 q33_2 q33_3 q33_4 q33_5 q33_6 q33_7 q33_8 ⟨rfl, rfl⟩)
    | 2, hT =>
      obtain ⟨rfl, rfl⟩ := Prod.mk.inj (Option.some.inj (show some ((some 64 : Option Nat), (.inl (.pointer (some ⟨gT, 0, none⟩)) : Value ⊕ Nat)) = some (d, x) from hT))
      exact wpOp_of _ rfl rfl (v_f39 (.tmp 3) 0 _ 0 rfl (by decide) (veval_of ((h.ot 3 (by decide)).trans h3)) ⟨rfl, rfl⟩)
    | 3, hT =>
      obtain ⟨rfl, rfl⟩ := Prod.mk.inj (Option.some.inj (show some ((some 65 : Option Nat), (.inl (.pointer (some ⟨gT, 1, none⟩)) : Value ⊕ Nat)) = some (d, x) from hT))
      exact wpOp_of _ rfl rfl (v_f33 (.tmp 64) _ rfl (veval_of (h.val 2 64 _ rfl (by decide))) ⟨rfl, rfl⟩)
    | 4, hT =>
      obtain ⟨rfl, rfl⟩ := Prod.mk.inj (Option.some.inj (show some ((some 66 : Option Nat), (.inl (.slice (some ⟨bb, bo, none⟩) bn bc) : Value ⊕ Nat)) = some (d, x) from hT))
      have hw := h.r.1 (h.later 0 9 rfl 10 (by kernel_rfl))
      subst hw
      exact wpOp_of _ rfl rfl (v_load25 (.tmp 65) _ _ _ rfl (veval_of (h.val 3 65 _ rfl (by decide))) q33_1 ⟨rfl, rfl⟩)
    | 5, hT =>
      obtain ⟨rfl, rfl⟩ := Prod.mk.inj (Option.some.inj (show some ((some 67 : Option Nat), (.inl (.int .i64 (((n + 1 : Nat)) : Int)) : Value ⊕ Nat)) = some (d, x) from hT))
      exact wpOp_of _ rfl rfl (v_move (.tmp 8) _ rfl (veval_of ((h.ot 8 (by decide)).trans h8)) ⟨rfl, rfl⟩)
    | 6, hT =>
      obtain ⟨rfl, rfl⟩ := Prod.mk.inj (Option.some.inj (show some ((some 68 : Option Nat), (.inl (.int .i64 ((n : Nat) : Int)) : Value ⊕ Nat)) = some (d, x) from hT))
      exact wpOp_of _ rfl rfl (v_sub1 (.tmp 67) (n + 1) (by omega) (by omega) rfl (veval_of (h.val 5 67 _ rfl (by decide))) ⟨rfl, rfl⟩)
    | 7, hT =>
      obtain ⟨rfl, rfl⟩ := Prod.mk.inj (Option.some.inj (show some ((some 69 : Option Nat), (.inl (.int .i64 (((n + 1 : Nat)) : Int)) : Value ⊕ Nat)) = some (d, x) from hT))
      exact wpOp_of _ rfl rfl (v_move (.tmp 8) _ rfl (veval_of ((h.ot 8 (by decide)).trans h8)) ⟨rfl, rfl⟩)
    | 8, hT =>
      obtain ⟨rfl, rfl⟩ := Prod.mk.inj (Option.some.inj (show some ((some 70 : Option Nat), (.inl (.slice (some ⟨bb, bo + n * 8, none⟩) 1 (bc - n)) : Value ⊕ Nat)) = some (d, x) from hT))
      exact wpOp_of _ rfl rfl (v_slc 66 68 69 _ _ _ _ _ rfl (h.val 4 66 _ rfl (by decide)) (h.val 6 68 _ rfl (by decide)) (h.val 7 69 _ rfl (by decide)) hn1 hn2 hn3 ⟨rfl, rfl⟩)
    | 9, hT =>
      obtain ⟨rfl, rfl⟩ := Prod.mk.inj (Option.some.inj (show some ((some 71 : Option Nat), (.inr 0 : Value ⊕ Nat)) = some (d, x) from hT))
      have hw := h.r.1 (h.not 0 rfl)
      subst hw
      refine wpOp_of _ rfl rfl (v_call 12 _ _ rfl _ Try.func12 (by kernel_rfl) (by kernel_rfl) #[.agg #[.slice pa pn pc, .slice (some ⟨bb, bo, none⟩) bn bc, .int .i64 f.k, .int .i64 f.w, .int .i64 f.o, .int .u64 ((f.v : Nat) : Int), .int .i64 f.c, .int .i64 f.l, .slice ka kn kc], .slice (some ⟨bb, bo + n * 8, none⟩) 1 (bc - n), .pointer (some ⟨g7, 0, none⟩)] (by simp [veval_of (h.val 1 63 _ rfl (by decide)), veval_of (h.val 8 70 _ rfl (by decide)), veval_of ((h.ot 7 (by decide)).trans h7)]; first | done | rfl | exact ⟨rfl, rfl⟩ | exact ⟨rfl, rfl, rfl⟩) (k0.mono ?_))
      rintro e y ⟨rfl, hy⟩
      exact ⟨_, rfl, _, rfl, (fun e => by cases e), fun _ _ => hy⟩
    | i + 10, hT => simp [z15T] at hT
  · intro vs w' hv hR
    obtain ⟨u, e⟩ := hv 0 (by decide)
    exact hend vs w' (hR.2 u e)
end Go.Proofs.Qxb6500772a
