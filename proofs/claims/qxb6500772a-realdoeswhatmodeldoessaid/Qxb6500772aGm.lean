/- blastlaw: regions of step that append. -/
import Derived.Test.Qxb6500772aGl
import Derived.Test.Qxb6500772aGf
namespace Go.Proofs.Qxb6500772a
open Go Go.RowKit Go.Qm
set_option linter.unusedVariables false
set_option linter.unusedSimpArgs false
def tq15 : Array Oper := #[{ dst := some 114, op := Go.Op.move (Go.Operand.tmp 0), type := 75, pos := "build.go:114", after := #[], guard := none }, { dst := some 115, op := Go.Op.fieldAddr 81 (Go.Operand.tmp 3) 1, type := 0, pos := "build.go:114", after := #[], guard := none }, { dst := some 116, op := Go.Op.load 3 (Go.Operand.tmp 115), type := 3, pos := "build.go:114", after := #[{ on := 1, ground := Go.Ground.data }], guard := none }, { dst := some 117, op := Go.Op.call { callee := Go.Callee.value (Go.Operand.func 50), args := #[Go.Operand.tmp 114, Go.Operand.tmp 116], argTypes := #[75, 3] }, type := 3, pos := "build.go:114", after := #[{ on := 0, ground := Go.Ground.data }, { on := 2, ground := Go.Ground.data }], guard := none }, { dst := some 118, op := Go.Op.fieldAddr 81 (Go.Operand.tmp 3) 1, type := 0, pos := "build.go:114", after := #[], guard := none }, { dst := some 119, op := Go.Op.load 3 (Go.Operand.tmp 118), type := 3, pos := "build.go:114", after := #[{ on := 4, ground := Go.Ground.data }], guard := none }, { dst := some 120, op := Go.Op.fieldAddr 81 (Go.Operand.tmp 3) 2, type := 0, pos := "build.go:114", after := #[], guard := none }, { dst := some 121, op := Go.Op.load 3 (Go.Operand.tmp 120), type := 3, pos := "build.go:114", after := #[{ on := 6, ground := Go.Ground.data }], guard := none }, { dst := some 122, op := Go.Op.move (Go.Operand.tmp 0), type := 75, pos := "build.go:114", after := #[], guard := none }, { dst := some 123, op := Go.Op.call { callee := Go.Callee.value (Go.Operand.func 51), args := #[Go.Operand.tmp 122, Go.Operand.const (Go.Value.int Go.IntKind.i64 1)], argTypes := #[75, 3] }, type := 29, pos := "build.go:114", after := #[{ on := 8, ground := Go.Ground.data }, { on := 3, ground := Go.Ground.chain }], guard := none }, { dst := some 124, op := Go.Op.build 31 #[(0, Go.Operand.const (Go.Value.int Go.IntKind.i64 3)), (1, Go.Operand.tmp 117), (4, Go.Operand.tmp 119), (5, Go.Operand.tmp 121), (6, Go.Operand.tmp 123)], type := 31, pos := "build.go:114", after := #[{ on := 3, ground := Go.Ground.data }, { on := 5, ground := Go.Ground.data }, { on := 7, ground := Go.Ground.data }, { on := 9, ground := Go.Ground.data }], guard := none }, { dst := some 5, op := Go.Op.alloc 31, type := 0, pos := "build.go:114", after := #[], guard := none }, { dst := none, op := Go.Op.store 31 (Go.Operand.tmp 5) (Go.Operand.tmp 124), type := 0, pos := "build.go:114", after := #[{ on := 11, ground := Go.Ground.data }, { on := 10, ground := Go.Ground.data }, { on := 9, ground := Go.Ground.chain }, { on := 0, ground := Go.Ground.phase }, { on := 1, ground := Go.Ground.phase }, { on := 2, ground := Go.Ground.phase }, { on := 3, ground := Go.Ground.phase }, { on := 4, ground := Go.Ground.phase }, { on := 5, ground := Go.Ground.phase }, { on := 6, ground := Go.Ground.phase }, { on := 7, ground := Go.Ground.phase }, { on := 8, ground := Go.Ground.phase }, { on := 9, ground := Go.Ground.phase }, { on := 10, ground := Go.Ground.phase }, { on := 11, ground := Go.Ground.phase }], guard := none }]
def tq15T (gb gO : Nat) (A Bf Cf D : Int) : List (Option Nat × (Value ⊕ Nat)) := [(some 114, .inl (.pointer (some ⟨gb, 0, none⟩))), (some 115, .inl (.pointer (some ⟨gO, 1, none⟩))), (some 116, .inl (.int .i64 A)), (some 117, .inr 4), (some 118, .inl (.pointer (some ⟨gO, 1, none⟩))), (some 119, .inl (.int .i64 A)), (some 120, .inl (.pointer (some ⟨gO, 2, none⟩))), (some 121, .inl (.int .i64 Bf)), (some 122, .inl (.pointer (some ⟨gb, 0, none⟩))), (some 123, .inr 0), (some 124, .inr 1), (some 5, .inr 2), (none, .inr 3)]
theorem tq15_chk : chk tq15 tq15.size = true := by kernel_rfl
set_option maxRecDepth 4000 in
set_option maxHeartbeats 4000000 in
theorem tq15_c {Q : Exit → Act → World → Prop} {a0 : Act} {w : World} {B gb gO : Nat} {A Bf Cf D Kf : Int} {P : Nat → Prop} {cv xv sv pv nv : Value} {cels : List Cel} {l ys : List NE} {ss : List NS} {bad : NE} {cu nx : List (Int × Nat)} {cf : Bool} {nf : Int} (hb : BB B P w.drew gb cv xv sv pv nv cels (l ++ ys) ss bad cu nx cf nf) (hz0 : a0.tmps.size = 500) (hl : l.length ≤ 90000) (hy : ys.length = 1)
    (h0 : a0.tmps[0]? = some (.pointer (some ⟨gb, 0, none⟩))) (h3 : a0.tmps[3]? = some (.pointer (some ⟨gO, 0, none⟩))) (harO : Arr w.drew gO 81 [.int .i64 Kf, .int .i64 A, .int .i64 Bf, .int .i64 Cf, .int .i64 D]) (hgO : gO ≠ gb) (hA : I64 A) (hB : I64 Bf)
    (hend : ∀ vs w', (∃ xv' gL gE f, vs 2 = some (.pointer (some ⟨gE, 0, none⟩)) ∧ EFr f ∧ w.drew.heap.size ≤ gE ∧ gL ≠ gE ∧ Popd B P w.drew w' gb cv xv sv pv nv cels l ys ss bad cu nx cf nf xv' gL ∧ Arr w' gE 31 (efC f (.slice (some ⟨gL, 0, none⟩) ys.length ys.length)) ∧ Fr (fun q => q = gb) w.drew w') → Q .normal (lay a0 (Lmx (tq15T gb gO A Bf Cf D) vs)) w') :
    (Code.region 15 tq15 true).wp Try.prog Q a0 w := by
  refine wp_region_mx (by rfl) (tq15T gb gO A Bf Cf D) [114, 115, 116, 117, 118, 119, 120, 121, 122, 123, 124, 5] [none, none, none, some 4, none, none, none, none, none, some 0, some 1, some 2, some 3] [9, 10, 11, 12, 3] rfl rfl rfl tq15_chk (by decide) (by decide) (by
    intro d hd
    rw [hz0]
    have : ∀ y ∈ [114, 115, 116, 117, 118, 119, 120, 121, 122, 123, 124, 5], y < 500 := by decide
    exact this _ hd) (R4 B P w.drew gb cv xv sv pv nv cels l ys ss bad cu nx cf nf) (R4.start hb) ?_ ?_
  · intro i d x hT listed vs a w' h
    match i, hT with
    | 0, hT =>
      obtain ⟨rfl, rfl⟩ := Prod.mk.inj (Option.some.inj (show some ((some 114 : Option Nat), (.inl (.pointer (some ⟨gb, 0, none⟩)) : Value ⊕ Nat)) = some (d, x) from hT))
      exact wpOp_of _ rfl rfl (v_move (.tmp 0) _ rfl (veval_of ((h.ot 0 (by decide)).trans h0)) ⟨rfl, rfl⟩)
    | 1, hT =>
      obtain ⟨rfl, rfl⟩ := Prod.mk.inj (Option.some.inj (show some ((some 115 : Option Nat), (.inl (.pointer (some ⟨gO, 1, none⟩)) : Value ⊕ Nat)) = some (d, x) from hT))
      exact wpOp_of _ rfl rfl (v_f81 (.tmp 3) 1 _ 1 rfl (by decide) (veval_of ((h.ot 3 (by decide)).trans h3)) ⟨rfl, rfl⟩)
    | 2, hT =>
      obtain ⟨rfl, rfl⟩ := Prod.mk.inj (Option.some.inj (show some ((some 116 : Option Nat), (.inl (.int .i64 A) : Value ⊕ Nat)) = some (d, x) from hT))
      have hq : w'.cell? ⟨gO, 1, none⟩ = some (.int .i64 A) := (h.r.fr.arr hgO harO).cell 1
      exact wpOp_of _ rfl rfl (v_load3 (.tmp 115) _ _ _ rfl (veval_of (h.val 1 115 _ rfl (by decide))) hq ⟨rfl, rfl⟩)
    | 3, hT =>
      obtain ⟨rfl, rfl⟩ := Prod.mk.inj (Option.some.inj (show some ((some 117 : Option Nat), (.inr 4 : Value ⊕ Nat)) = some (d, x) from hT))
      have n0 := h.later 0 9 rfl 13 (by kernel_rfl)
      refine wpOp_of _ rfl rfl (v_call 50 _ _ rfl _ Try.func50 (by kernel_rfl) (by kernel_rfl) #[.pointer (some ⟨gb, 0, none⟩), .int .i64 A] (by simp [veval_of (h.val 0 114 _ rfl (by decide)), veval_of (h.val 2 116 _ rfl (by decide))]; exact ⟨rfl, rfl⟩) ((widthOf_c (h.r.a n0) A).mono ?_))
      rintro e w2 ⟨⟨u, rfl, hu⟩, rfl⟩
      exact ⟨_, rfl, _, rfl, h.r.wid hu⟩
    | 4, hT =>
      obtain ⟨rfl, rfl⟩ := Prod.mk.inj (Option.some.inj (show some ((some 118 : Option Nat), (.inl (.pointer (some ⟨gO, 1, none⟩)) : Value ⊕ Nat)) = some (d, x) from hT))
      exact wpOp_of _ rfl rfl (v_f81 (.tmp 3) 1 _ 1 rfl (by decide) (veval_of ((h.ot 3 (by decide)).trans h3)) ⟨rfl, rfl⟩)
    | 5, hT =>
      obtain ⟨rfl, rfl⟩ := Prod.mk.inj (Option.some.inj (show some ((some 119 : Option Nat), (.inl (.int .i64 A) : Value ⊕ Nat)) = some (d, x) from hT))
      have hq : w'.cell? ⟨gO, 1, none⟩ = some (.int .i64 A) := (h.r.fr.arr hgO harO).cell 1
      exact wpOp_of _ rfl rfl (v_load3 (.tmp 118) _ _ _ rfl (veval_of (h.val 4 118 _ rfl (by decide))) hq ⟨rfl, rfl⟩)
    | 6, hT =>
      obtain ⟨rfl, rfl⟩ := Prod.mk.inj (Option.some.inj (show some ((some 120 : Option Nat), (.inl (.pointer (some ⟨gO, 2, none⟩)) : Value ⊕ Nat)) = some (d, x) from hT))
      exact wpOp_of _ rfl rfl (v_f81 (.tmp 3) 2 _ 2 rfl (by decide) (veval_of ((h.ot 3 (by decide)).trans h3)) ⟨rfl, rfl⟩)
    | 7, hT =>
      obtain ⟨rfl, rfl⟩ := Prod.mk.inj (Option.some.inj (show some ((some 121 : Option Nat), (.inl (.int .i64 Bf) : Value ⊕ Nat)) = some (d, x) from hT))
      have hq : w'.cell? ⟨gO, 2, none⟩ = some (.int .i64 Bf) := (h.r.fr.arr hgO harO).cell 2
      exact wpOp_of _ rfl rfl (v_load3 (.tmp 120) _ _ _ rfl (veval_of (h.val 6 120 _ rfl (by decide))) hq ⟨rfl, rfl⟩)
    | 8, hT =>
      obtain ⟨rfl, rfl⟩ := Prod.mk.inj (Option.some.inj (show some ((some 122 : Option Nat), (.inl (.pointer (some ⟨gb, 0, none⟩)) : Value ⊕ Nat)) = some (d, x) from hT))
      exact wpOp_of _ rfl rfl (v_move (.tmp 0) _ rfl (veval_of ((h.ot 0 (by decide)).trans h0)) ⟨rfl, rfl⟩)
    | 9, hT =>
      obtain ⟨rfl, rfl⟩ := Prod.mk.inj (Option.some.inj (show some ((some 123 : Option Nat), (.inr 0 : Value ⊕ Nat)) = some (d, x) from hT))
      have n0 := h.not 0 rfl
      have n1 := h.later 1 10 rfl 13 (by kernel_rfl)
      have n3 := h.later 3 12 rfl 13 (by kernel_rfl)
      have hp := h.r.pop hb n0 n1 n3 hl (by omega)
      rw [hy] at hp
      refine wpOp_of _ rfl rfl (v_call 51 _ _ rfl _ Try.func51 (by kernel_rfl) (by kernel_rfl) #[.pointer (some ⟨gb, 0, none⟩), .int .i64 ((1 : Nat) : Int)] (by simp [veval_of (h.val 8 122 _ rfl (by decide))]; exact ⟨rfl, rfl⟩) (hp.mono ?_))
      rintro e w2 ⟨u, he, hR⟩
      exact ⟨u, he, _, rfl, hR⟩
    | 10, hT =>
      obtain ⟨rfl, rfl⟩ := Prod.mk.inj (Option.some.inj (show some ((some 124 : Option Nat), (.inr 1 : Value ⊕ Nat)) = some (d, x) from hT))
      obtain ⟨u0, e0⟩ := h.has 0 9 rfl 13 (by kernel_rfl)
      obtain ⟨u4, e4⟩ := h.has 4 3 rfl 13 (by kernel_rfl)
      have n3 := h.later 3 12 rfl 13 (by kernel_rfl)
      obtain ⟨gL, rfl, hR⟩ := h.r.bld e0 n3
      obtain ⟨z, rfl, hz⟩ := h.r.e u4 e4
      exact wpOp_of _ rfl rfl (v_b15 117 _ 119 _ 121 _ 123 _ _ _ rfl (h.vale 3 117 4 rfl (by decide) e4) (h.val 5 119 _ rfl (by decide)) (h.val 7 121 _ rfl (by decide)) (h.vale 9 123 0 rfl (by decide) e0) ⟨_, rfl, hR ⟨3, z, 0, 0, A, Bf⟩ ⟨by first | exact hA | exact hB | exact hz | simp [I64], by first | exact hA | exact hB | exact hz | simp [I64], by first | exact hA | exact hB | exact hz | simp [I64], by simp, by first | exact hA | exact hB | exact hz | simp [I64], by first | exact hA | exact hB | exact hz | simp [I64]⟩⟩)
    | 11, hT =>
      obtain ⟨rfl, rfl⟩ := Prod.mk.inj (Option.some.inj (show some ((some 5 : Option Nat), (.inr 2 : Value ⊕ Nat)) = some (d, x) from hT))
      have n3 := h.later 3 12 rfl 13 (by kernel_rfl)
      exact wpOp_of _ rfl rfl (v_al31 rfl ⟨_, rfl, h.r.alloc n3⟩)
    | 12, hT =>
      obtain ⟨rfl, rfl⟩ := Prod.mk.inj (Option.some.inj (show some ((none : Option Nat), (.inr 3 : Value ⊕ Nat)) = some (d, x) from hT))
      obtain ⟨u1, e1⟩ := h.has 1 10 rfl 13 (by kernel_rfl)
      obtain ⟨u2, e2⟩ := h.has 2 11 rfl 13 (by kernel_rfl)
      have n3 := h.not 3 rfl
      obtain ⟨gE, f, gL, rfl, rfl, hcs, hfz, hR⟩ := h.r.store hb e1 e2 n3
      exact wpOp_of _ rfl rfl (v_store31 (.tmp 5) (.tmp 124) _ _ _ _ _ _ _ _ _ _ _ rfl rfl (veval_of (h.vale 11 5 2 rfl (by decide) e2)) (veval_of (h.vale 10 124 1 rfl (by decide) e1)) hcs hfz ⟨.bool true, rfl, hR _⟩)
    | i + 13, hT => simp [tq15T] at hT
  · intro vs w' hv hR
    obtain ⟨u0, e0⟩ := hv 0 (by decide)
    obtain ⟨u1, e1⟩ := hv 1 (by decide)
    obtain ⟨u2, e2⟩ := hv 2 (by decide)
    obtain ⟨u3, e3⟩ := hv 3 (by decide)
    exact hend vs w' (hR.fin e0 e1 e2 e3)
def tq19 : Array Oper := #[{ dst := some 140, op := Go.Op.fieldAddr 81 (Go.Operand.tmp 3) 1, type := 0, pos := "build.go:119", after := #[], guard := none }, { dst := some 141, op := Go.Op.load 3 (Go.Operand.tmp 140), type := 3, pos := "build.go:119", after := #[{ on := 0, ground := Go.Ground.data }], guard := none }, { dst := some 142, op := Go.Op.move (Go.Operand.tmp 0), type := 75, pos := "build.go:119", after := #[], guard := none }, { dst := some 143, op := Go.Op.call { callee := Go.Callee.value (Go.Operand.func 51), args := #[Go.Operand.tmp 142, Go.Operand.const (Go.Value.int Go.IntKind.i64 1)], argTypes := #[75, 3] }, type := 29, pos := "build.go:119", after := #[{ on := 2, ground := Go.Ground.data }], guard := none }, { dst := some 144, op := Go.Op.build 31 #[(0, Go.Operand.const (Go.Value.int Go.IntKind.i64 4)), (2, Go.Operand.tmp 141), (6, Go.Operand.tmp 143)], type := 31, pos := "build.go:119", after := #[{ on := 1, ground := Go.Ground.data }, { on := 3, ground := Go.Ground.data }], guard := none }, { dst := some 6, op := Go.Op.alloc 31, type := 0, pos := "build.go:119", after := #[], guard := none }, { dst := none, op := Go.Op.store 31 (Go.Operand.tmp 6) (Go.Operand.tmp 144), type := 0, pos := "build.go:119", after := #[{ on := 5, ground := Go.Ground.data }, { on := 4, ground := Go.Ground.data }, { on := 3, ground := Go.Ground.chain }, { on := 0, ground := Go.Ground.phase }, { on := 1, ground := Go.Ground.phase }, { on := 2, ground := Go.Ground.phase }, { on := 3, ground := Go.Ground.phase }, { on := 4, ground := Go.Ground.phase }, { on := 5, ground := Go.Ground.phase }], guard := none }]
def tq19T (gb gO : Nat) (A Bf Cf D : Int) : List (Option Nat × (Value ⊕ Nat)) := [(some 140, .inl (.pointer (some ⟨gO, 1, none⟩))), (some 141, .inl (.int .i64 A)), (some 142, .inl (.pointer (some ⟨gb, 0, none⟩))), (some 143, .inr 0), (some 144, .inr 1), (some 6, .inr 2), (none, .inr 3)]
theorem tq19_chk : chk tq19 tq19.size = true := by kernel_rfl
set_option maxRecDepth 4000 in
set_option maxHeartbeats 4000000 in
theorem tq19_c {Q : Exit → Act → World → Prop} {a0 : Act} {w : World} {B gb gO : Nat} {A Bf Cf D Kf : Int} {P : Nat → Prop} {cv xv sv pv nv : Value} {cels : List Cel} {l ys : List NE} {ss : List NS} {bad : NE} {cu nx : List (Int × Nat)} {cf : Bool} {nf : Int} (hb : BB B P w.drew gb cv xv sv pv nv cels (l ++ ys) ss bad cu nx cf nf) (hz0 : a0.tmps.size = 500) (hl : l.length ≤ 90000) (hy : ys.length = 1)
    (h0 : a0.tmps[0]? = some (.pointer (some ⟨gb, 0, none⟩))) (h3 : a0.tmps[3]? = some (.pointer (some ⟨gO, 0, none⟩))) (harO : Arr w.drew gO 81 [.int .i64 Kf, .int .i64 A, .int .i64 Bf, .int .i64 Cf, .int .i64 D]) (hgO : gO ≠ gb) (hA : I64 A) (hB : I64 Bf)
    (hend : ∀ vs w', (∃ xv' gL gE f, vs 2 = some (.pointer (some ⟨gE, 0, none⟩)) ∧ EFr f ∧ w.drew.heap.size ≤ gE ∧ gL ≠ gE ∧ Popd B P w.drew w' gb cv xv sv pv nv cels l ys ss bad cu nx cf nf xv' gL ∧ Arr w' gE 31 (efC f (.slice (some ⟨gL, 0, none⟩) ys.length ys.length)) ∧ Fr (fun q => q = gb) w.drew w') → Q .normal (lay a0 (Lmx (tq19T gb gO A Bf Cf D) vs)) w') :
    (Code.region 19 tq19 true).wp Try.prog Q a0 w := by
  refine wp_region_mx (by rfl) (tq19T gb gO A Bf Cf D) [140, 141, 142, 143, 144, 6] [none, none, none, some 0, some 1, some 2, some 3] [3, 4, 5, 6] rfl rfl rfl tq19_chk (by decide) (by decide) (by
    intro d hd
    rw [hz0]
    have : ∀ y ∈ [140, 141, 142, 143, 144, 6], y < 500 := by decide
    exact this _ hd) (R4 B P w.drew gb cv xv sv pv nv cels l ys ss bad cu nx cf nf) (R4.start hb) ?_ ?_
  · intro i d x hT listed vs a w' h
    match i, hT with
    | 0, hT =>
      obtain ⟨rfl, rfl⟩ := Prod.mk.inj (Option.some.inj (show some ((some 140 : Option Nat), (.inl (.pointer (some ⟨gO, 1, none⟩)) : Value ⊕ Nat)) = some (d, x) from hT))
      exact wpOp_of _ rfl rfl (v_f81 (.tmp 3) 1 _ 1 rfl (by decide) (veval_of ((h.ot 3 (by decide)).trans h3)) ⟨rfl, rfl⟩)
    | 1, hT =>
      obtain ⟨rfl, rfl⟩ := Prod.mk.inj (Option.some.inj (show some ((some 141 : Option Nat), (.inl (.int .i64 A) : Value ⊕ Nat)) = some (d, x) from hT))
      have hq : w'.cell? ⟨gO, 1, none⟩ = some (.int .i64 A) := (h.r.fr.arr hgO harO).cell 1
      exact wpOp_of _ rfl rfl (v_load3 (.tmp 140) _ _ _ rfl (veval_of (h.val 0 140 _ rfl (by decide))) hq ⟨rfl, rfl⟩)
    | 2, hT =>
      obtain ⟨rfl, rfl⟩ := Prod.mk.inj (Option.some.inj (show some ((some 142 : Option Nat), (.inl (.pointer (some ⟨gb, 0, none⟩)) : Value ⊕ Nat)) = some (d, x) from hT))
      exact wpOp_of _ rfl rfl (v_move (.tmp 0) _ rfl (veval_of ((h.ot 0 (by decide)).trans h0)) ⟨rfl, rfl⟩)
    | 3, hT =>
      obtain ⟨rfl, rfl⟩ := Prod.mk.inj (Option.some.inj (show some ((some 143 : Option Nat), (.inr 0 : Value ⊕ Nat)) = some (d, x) from hT))
      have n0 := h.not 0 rfl
      have n1 := h.later 1 4 rfl 7 (by kernel_rfl)
      have n3 := h.later 3 6 rfl 7 (by kernel_rfl)
      have hp := h.r.pop hb n0 n1 n3 hl (by omega)
      rw [hy] at hp
      refine wpOp_of _ rfl rfl (v_call 51 _ _ rfl _ Try.func51 (by kernel_rfl) (by kernel_rfl) #[.pointer (some ⟨gb, 0, none⟩), .int .i64 ((1 : Nat) : Int)] (by simp [veval_of (h.val 2 142 _ rfl (by decide))]; exact ⟨rfl, rfl⟩) (hp.mono ?_))
      rintro e w2 ⟨u, he, hR⟩
      exact ⟨u, he, _, rfl, hR⟩
    | 4, hT =>
      obtain ⟨rfl, rfl⟩ := Prod.mk.inj (Option.some.inj (show some ((some 144 : Option Nat), (.inr 1 : Value ⊕ Nat)) = some (d, x) from hT))
      obtain ⟨u0, e0⟩ := h.has 0 3 rfl 7 (by kernel_rfl)
      have n3 := h.later 3 6 rfl 7 (by kernel_rfl)
      obtain ⟨gL, rfl, hR⟩ := h.r.bld e0 n3
      exact wpOp_of _ rfl rfl (v_b19 141 _ 143 _ _ _ rfl (h.val 1 141 _ rfl (by decide)) (h.vale 3 143 0 rfl (by decide) e0) ⟨_, rfl, hR ⟨4, 0, A, 0, 0, 0⟩ ⟨by first | exact hA | exact hB | simp [I64], by first | exact hA | exact hB | simp [I64], by first | exact hA | exact hB | simp [I64], by simp, by first | exact hA | exact hB | simp [I64], by first | exact hA | exact hB | simp [I64]⟩⟩)
    | 5, hT =>
      obtain ⟨rfl, rfl⟩ := Prod.mk.inj (Option.some.inj (show some ((some 6 : Option Nat), (.inr 2 : Value ⊕ Nat)) = some (d, x) from hT))
      have n3 := h.later 3 6 rfl 7 (by kernel_rfl)
      exact wpOp_of _ rfl rfl (v_al31 rfl ⟨_, rfl, h.r.alloc n3⟩)
    | 6, hT =>
      obtain ⟨rfl, rfl⟩ := Prod.mk.inj (Option.some.inj (show some ((none : Option Nat), (.inr 3 : Value ⊕ Nat)) = some (d, x) from hT))
      obtain ⟨u1, e1⟩ := h.has 1 4 rfl 7 (by kernel_rfl)
      obtain ⟨u2, e2⟩ := h.has 2 5 rfl 7 (by kernel_rfl)
      have n3 := h.not 3 rfl
      obtain ⟨gE, f, gL, rfl, rfl, hcs, hfz, hR⟩ := h.r.store hb e1 e2 n3
      exact wpOp_of _ rfl rfl (v_store31 (.tmp 6) (.tmp 144) _ _ _ _ _ _ _ _ _ _ _ rfl rfl (veval_of (h.vale 5 6 2 rfl (by decide) e2)) (veval_of (h.vale 4 144 1 rfl (by decide) e1)) hcs hfz ⟨.bool true, rfl, hR _⟩)
    | i + 7, hT => simp [tq19T] at hT
  · intro vs w' hv hR
    obtain ⟨u0, e0⟩ := hv 0 (by decide)
    obtain ⟨u1, e1⟩ := hv 1 (by decide)
    obtain ⟨u2, e2⟩ := hv 2 (by decide)
    obtain ⟨u3, e3⟩ := hv 3 (by decide)
    exact hend vs w' (hR.fin e0 e1 e2 e3)
def tq26 : Array Oper := #[{ dst := some 182, op := Go.Op.fieldAddr 81 (Go.Operand.tmp 3) 1, type := 0, pos := "build.go:128", after := #[], guard := none }, { dst := some 183, op := Go.Op.load 3 (Go.Operand.tmp 182), type := 3, pos := "build.go:128", after := #[{ on := 0, ground := Go.Ground.data }], guard := none }, { dst := some 184, op := Go.Op.move (Go.Operand.tmp 0), type := 75, pos := "build.go:128", after := #[], guard := none }, { dst := some 185, op := Go.Op.call { callee := Go.Callee.value (Go.Operand.func 51), args := #[Go.Operand.tmp 184, Go.Operand.const (Go.Value.int Go.IntKind.i64 2)], argTypes := #[75, 3] }, type := 29, pos := "build.go:128", after := #[{ on := 2, ground := Go.Ground.data }], guard := none }, { dst := some 186, op := Go.Op.build 31 #[(0, Go.Operand.const (Go.Value.int Go.IntKind.i64 5)), (2, Go.Operand.tmp 183), (6, Go.Operand.tmp 185)], type := 31, pos := "build.go:128", after := #[{ on := 1, ground := Go.Ground.data }, { on := 3, ground := Go.Ground.data }], guard := none }, { dst := some 7, op := Go.Op.alloc 31, type := 0, pos := "build.go:128", after := #[], guard := none }, { dst := none, op := Go.Op.store 31 (Go.Operand.tmp 7) (Go.Operand.tmp 186), type := 0, pos := "build.go:128", after := #[{ on := 5, ground := Go.Ground.data }, { on := 4, ground := Go.Ground.data }, { on := 3, ground := Go.Ground.chain }, { on := 0, ground := Go.Ground.phase }, { on := 1, ground := Go.Ground.phase }, { on := 2, ground := Go.Ground.phase }, { on := 3, ground := Go.Ground.phase }, { on := 4, ground := Go.Ground.phase }, { on := 5, ground := Go.Ground.phase }], guard := none }]
def tq26T (gb gO : Nat) (A Bf Cf D : Int) : List (Option Nat × (Value ⊕ Nat)) := [(some 182, .inl (.pointer (some ⟨gO, 1, none⟩))), (some 183, .inl (.int .i64 A)), (some 184, .inl (.pointer (some ⟨gb, 0, none⟩))), (some 185, .inr 0), (some 186, .inr 1), (some 7, .inr 2), (none, .inr 3)]
theorem tq26_chk : chk tq26 tq26.size = true := by kernel_rfl
set_option maxRecDepth 4000 in
set_option maxHeartbeats 4000000 in
theorem tq26_c {Q : Exit → Act → World → Prop} {a0 : Act} {w : World} {B gb gO : Nat} {A Bf Cf D Kf : Int} {P : Nat → Prop} {cv xv sv pv nv : Value} {cels : List Cel} {l ys : List NE} {ss : List NS} {bad : NE} {cu nx : List (Int × Nat)} {cf : Bool} {nf : Int} (hb : BB B P w.drew gb cv xv sv pv nv cels (l ++ ys) ss bad cu nx cf nf) (hz0 : a0.tmps.size = 500) (hl : l.length ≤ 90000) (hy : ys.length = 2)
    (h0 : a0.tmps[0]? = some (.pointer (some ⟨gb, 0, none⟩))) (h3 : a0.tmps[3]? = some (.pointer (some ⟨gO, 0, none⟩))) (harO : Arr w.drew gO 81 [.int .i64 Kf, .int .i64 A, .int .i64 Bf, .int .i64 Cf, .int .i64 D]) (hgO : gO ≠ gb) (hA : I64 A) (hB : I64 Bf)
    (hend : ∀ vs w', (∃ xv' gL gE f, vs 2 = some (.pointer (some ⟨gE, 0, none⟩)) ∧ EFr f ∧ w.drew.heap.size ≤ gE ∧ gL ≠ gE ∧ Popd B P w.drew w' gb cv xv sv pv nv cels l ys ss bad cu nx cf nf xv' gL ∧ Arr w' gE 31 (efC f (.slice (some ⟨gL, 0, none⟩) ys.length ys.length)) ∧ Fr (fun q => q = gb) w.drew w') → Q .normal (lay a0 (Lmx (tq26T gb gO A Bf Cf D) vs)) w') :
    (Code.region 26 tq26 true).wp Try.prog Q a0 w := by
  refine wp_region_mx (by rfl) (tq26T gb gO A Bf Cf D) [182, 183, 184, 185, 186, 7] [none, none, none, some 0, some 1, some 2, some 3] [3, 4, 5, 6] rfl rfl rfl tq26_chk (by decide) (by decide) (by
    intro d hd
    rw [hz0]
    have : ∀ y ∈ [182, 183, 184, 185, 186, 7], y < 500 := by decide
    exact this _ hd) (R4 B P w.drew gb cv xv sv pv nv cels l ys ss bad cu nx cf nf) (R4.start hb) ?_ ?_
  · intro i d x hT listed vs a w' h
    match i, hT with
    | 0, hT =>
      obtain ⟨rfl, rfl⟩ := Prod.mk.inj (Option.some.inj (show some ((some 182 : Option Nat), (.inl (.pointer (some ⟨gO, 1, none⟩)) : Value ⊕ Nat)) = some (d, x) from hT))
      exact wpOp_of _ rfl rfl (v_f81 (.tmp 3) 1 _ 1 rfl (by decide) (veval_of ((h.ot 3 (by decide)).trans h3)) ⟨rfl, rfl⟩)
    | 1, hT =>
      obtain ⟨rfl, rfl⟩ := Prod.mk.inj (Option.some.inj (show some ((some 183 : Option Nat), (.inl (.int .i64 A) : Value ⊕ Nat)) = some (d, x) from hT))
      have hq : w'.cell? ⟨gO, 1, none⟩ = some (.int .i64 A) := (h.r.fr.arr hgO harO).cell 1
      exact wpOp_of _ rfl rfl (v_load3 (.tmp 182) _ _ _ rfl (veval_of (h.val 0 182 _ rfl (by decide))) hq ⟨rfl, rfl⟩)
    | 2, hT =>
      obtain ⟨rfl, rfl⟩ := Prod.mk.inj (Option.some.inj (show some ((some 184 : Option Nat), (.inl (.pointer (some ⟨gb, 0, none⟩)) : Value ⊕ Nat)) = some (d, x) from hT))
      exact wpOp_of _ rfl rfl (v_move (.tmp 0) _ rfl (veval_of ((h.ot 0 (by decide)).trans h0)) ⟨rfl, rfl⟩)
    | 3, hT =>
      obtain ⟨rfl, rfl⟩ := Prod.mk.inj (Option.some.inj (show some ((some 185 : Option Nat), (.inr 0 : Value ⊕ Nat)) = some (d, x) from hT))
      have n0 := h.not 0 rfl
      have n1 := h.later 1 4 rfl 7 (by kernel_rfl)
      have n3 := h.later 3 6 rfl 7 (by kernel_rfl)
      have hp := h.r.pop hb n0 n1 n3 hl (by omega)
      rw [hy] at hp
      refine wpOp_of _ rfl rfl (v_call 51 _ _ rfl _ Try.func51 (by kernel_rfl) (by kernel_rfl) #[.pointer (some ⟨gb, 0, none⟩), .int .i64 ((2 : Nat) : Int)] (by simp [veval_of (h.val 2 184 _ rfl (by decide))]; exact ⟨rfl, rfl⟩) (hp.mono ?_))
      rintro e w2 ⟨u, he, hR⟩
      exact ⟨u, he, _, rfl, hR⟩
    | 4, hT =>
      obtain ⟨rfl, rfl⟩ := Prod.mk.inj (Option.some.inj (show some ((some 186 : Option Nat), (.inr 1 : Value ⊕ Nat)) = some (d, x) from hT))
      obtain ⟨u0, e0⟩ := h.has 0 3 rfl 7 (by kernel_rfl)
      have n3 := h.later 3 6 rfl 7 (by kernel_rfl)
      obtain ⟨gL, rfl, hR⟩ := h.r.bld e0 n3
      exact wpOp_of _ rfl rfl (v_b26 183 _ 185 _ _ _ rfl (h.val 1 183 _ rfl (by decide)) (h.vale 3 185 0 rfl (by decide) e0) ⟨_, rfl, hR ⟨5, 0, A, 0, 0, 0⟩ ⟨by first | exact hA | exact hB | simp [I64], by first | exact hA | exact hB | simp [I64], by first | exact hA | exact hB | simp [I64], by simp, by first | exact hA | exact hB | simp [I64], by first | exact hA | exact hB | simp [I64]⟩⟩)
    | 5, hT =>
      obtain ⟨rfl, rfl⟩ := Prod.mk.inj (Option.some.inj (show some ((some 7 : Option Nat), (.inr 2 : Value ⊕ Nat)) = some (d, x) from hT))
      have n3 := h.later 3 6 rfl 7 (by kernel_rfl)
      exact wpOp_of _ rfl rfl (v_al31 rfl ⟨_, rfl, h.r.alloc n3⟩)
    | 6, hT =>
      obtain ⟨rfl, rfl⟩ := Prod.mk.inj (Option.some.inj (show some ((none : Option Nat), (.inr 3 : Value ⊕ Nat)) = some (d, x) from hT))
      obtain ⟨u1, e1⟩ := h.has 1 4 rfl 7 (by kernel_rfl)
      obtain ⟨u2, e2⟩ := h.has 2 5 rfl 7 (by kernel_rfl)
      have n3 := h.not 3 rfl
      obtain ⟨gE, f, gL, rfl, rfl, hcs, hfz, hR⟩ := h.r.store hb e1 e2 n3
      exact wpOp_of _ rfl rfl (v_store31 (.tmp 7) (.tmp 186) _ _ _ _ _ _ _ _ _ _ _ rfl rfl (veval_of (h.vale 5 7 2 rfl (by decide) e2)) (veval_of (h.vale 4 186 1 rfl (by decide) e1)) hcs hfz ⟨.bool true, rfl, hR _⟩)
    | i + 7, hT => simp [tq26T] at hT
  · intro vs w' hv hR
    obtain ⟨u0, e0⟩ := hv 0 (by decide)
    obtain ⟨u1, e1⟩ := hv 1 (by decide)
    obtain ⟨u2, e2⟩ := hv 2 (by decide)
    obtain ⟨u3, e3⟩ := hv 3 (by decide)
    exact hend vs w' (hR.fin e0 e1 e2 e3)
end Go.Proofs.Qxb6500772a
