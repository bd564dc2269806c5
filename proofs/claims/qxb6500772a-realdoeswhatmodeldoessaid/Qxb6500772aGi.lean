/- blastlaw: regions of step that append. -/
import Derived.Test.Qxb6500772aGh
import Derived.Test.Qxb6500772aGf
namespace Go.Proofs.Qxb6500772a
open Go Go.RowKit Go.Qm
set_option linter.unusedVariables false
set_option linter.unusedSimpArgs false
def tq12 : Array Oper := #[{ dst := some 99, op := Go.Op.move (Go.Operand.tmp 0), type := 75, pos := "build.go:111", after := #[], guard := none }, { dst := some 100, op := Go.Op.nilCheck (Go.Operand.tmp 99), type := 0, pos := "build.go:111", after := #[{ on := 0, ground := Go.Ground.data }], guard := none }, { dst := some 101, op := Go.Op.fieldAddr 78 (Go.Operand.tmp 100) 1, type := 0, pos := "build.go:111", after := #[{ on := 1, ground := Go.Ground.data }], guard := none }, { dst := some 102, op := Go.Op.load 29 (Go.Operand.tmp 101), type := 29, pos := "build.go:111", after := #[{ on := 2, ground := Go.Ground.data }], guard := none }, { dst := some 103, op := Go.Op.build 31 #[(0, Go.Operand.const (Go.Value.int Go.IntKind.i64 2)), (1, Go.Operand.const (Go.Value.int Go.IntKind.i64 1))], type := 31, pos := "build.go:111", after := #[], guard := none }, { dst := some 104, op := Go.Op.call { callee := Go.Callee.builtin Go.Builtin.len, args := #[Go.Operand.tmp 102], argTypes := #[29] }, type := 3, pos := "build.go:111", after := #[{ on := 3, ground := Go.Ground.data }], guard := none }, { dst := some 105, op := Go.Op.buildSlice 29 1 #[(0, Go.Operand.const (Go.Value.agg #[Go.Value.int Go.IntKind.i64 0, Go.Value.int Go.IntKind.i64 0, Go.Value.int Go.IntKind.i64 0, Go.Value.int Go.IntKind.u64 0, Go.Value.int Go.IntKind.i64 0, Go.Value.int Go.IntKind.i64 0, Go.Value.slice none 0 0]))], type := 29, pos := "build.go:111", after := #[], guard := none }, { dst := some 106, op := Go.Op.call { callee := Go.Callee.builtin Go.Builtin.append, args := #[Go.Operand.tmp 102, Go.Operand.tmp 105], argTypes := #[29, 29] }, type := 29, pos := "build.go:111", after := #[{ on := 3, ground := Go.Ground.data }, { on := 6, ground := Go.Ground.data }, { on := 0, ground := Go.Ground.phase }, { on := 1, ground := Go.Ground.phase }, { on := 2, ground := Go.Ground.phase }, { on := 3, ground := Go.Ground.phase }, { on := 4, ground := Go.Ground.phase }, { on := 5, ground := Go.Ground.phase }, { on := 6, ground := Go.Ground.phase }], guard := none }, { dst := some 107, op := Go.Op.indexAddr 29 (Go.Operand.tmp 106) (Go.Operand.tmp 104), type := 0, pos := "build.go:111", after := #[{ on := 7, ground := Go.Ground.data }, { on := 5, ground := Go.Ground.data }, { on := 0, ground := Go.Ground.phase }, { on := 1, ground := Go.Ground.phase }, { on := 2, ground := Go.Ground.phase }, { on := 3, ground := Go.Ground.phase }, { on := 4, ground := Go.Ground.phase }, { on := 5, ground := Go.Ground.phase }, { on := 6, ground := Go.Ground.phase }, { on := 7, ground := Go.Ground.phase }, { on := 12, ground := Go.Ground.gcOnly Go.Departure.appendInPlace }], guard := none }, { dst := none, op := Go.Op.store 31 (Go.Operand.tmp 107) (Go.Operand.tmp 103), type := 0, pos := "build.go:111", after := #[{ on := 8, ground := Go.Ground.data }, { on := 4, ground := Go.Ground.data }, { on := 7, ground := Go.Ground.chain }, { on := 0, ground := Go.Ground.phase }, { on := 1, ground := Go.Ground.phase }, { on := 2, ground := Go.Ground.phase }, { on := 3, ground := Go.Ground.phase }, { on := 4, ground := Go.Ground.phase }, { on := 5, ground := Go.Ground.phase }, { on := 6, ground := Go.Ground.phase }, { on := 7, ground := Go.Ground.phase }, { on := 12, ground := Go.Ground.gcOnly Go.Departure.appendInPlace }], guard := none }, { dst := some 108, op := Go.Op.nilCheck (Go.Operand.tmp 99), type := 0, pos := "build.go:111", after := #[{ on := 0, ground := Go.Ground.data }, { on := 0, ground := Go.Ground.phase }, { on := 1, ground := Go.Ground.phase }, { on := 2, ground := Go.Ground.phase }, { on := 3, ground := Go.Ground.phase }, { on := 4, ground := Go.Ground.phase }, { on := 5, ground := Go.Ground.phase }, { on := 6, ground := Go.Ground.phase }, { on := 7, ground := Go.Ground.phase }, { on := 8, ground := Go.Ground.textOnly Go.Departure.appendInPlace }, { on := 9, ground := Go.Ground.textOnly Go.Departure.appendInPlace }], guard := none }, { dst := some 109, op := Go.Op.fieldAddr 78 (Go.Operand.tmp 108) 1, type := 0, pos := "build.go:111", after := #[{ on := 10, ground := Go.Ground.data }, { on := 0, ground := Go.Ground.phase }, { on := 1, ground := Go.Ground.phase }, { on := 2, ground := Go.Ground.phase }, { on := 3, ground := Go.Ground.phase }, { on := 4, ground := Go.Ground.phase }, { on := 5, ground := Go.Ground.phase }, { on := 6, ground := Go.Ground.phase }, { on := 7, ground := Go.Ground.phase }, { on := 8, ground := Go.Ground.textOnly Go.Departure.appendInPlace }, { on := 9, ground := Go.Ground.textOnly Go.Departure.appendInPlace }], guard := none }, { dst := none, op := Go.Op.store 29 (Go.Operand.tmp 109) (Go.Operand.tmp 106), type := 0, pos := "build.go:111", after := #[{ on := 11, ground := Go.Ground.data }, { on := 7, ground := Go.Ground.data }, { on := 7, ground := Go.Ground.chain }, { on := 9, ground := Go.Ground.textOnly Go.Departure.appendInPlace }, { on := 0, ground := Go.Ground.phase }, { on := 1, ground := Go.Ground.phase }, { on := 2, ground := Go.Ground.phase }, { on := 3, ground := Go.Ground.phase }, { on := 4, ground := Go.Ground.phase }, { on := 5, ground := Go.Ground.phase }, { on := 6, ground := Go.Ground.phase }, { on := 7, ground := Go.Ground.phase }, { on := 8, ground := Go.Ground.textOnly Go.Departure.appendInPlace }, { on := 9, ground := Go.Ground.textOnly Go.Departure.appendInPlace }], guard := none }]
def tq12T (gb gO gE : Nat) (A Bf Cf D : Int) (va : Option Addr) (vc n : Nat) : List (Option Nat × (Value ⊕ Nat)) := [(some 99, .inl (.pointer (some ⟨gb, 0, none⟩))), (some 100, .inl (.pointer (some ⟨gb, 0, none⟩))), (some 101, .inl (.pointer (some ⟨gb, 1, none⟩))), (some 102, .inl (.slice va n vc)), (some 103, .inr 5), (some 104, .inl (.int .i64 ((n : Nat) : Int))), (some 105, .inr 0), (some 106, .inr 1), (some 107, .inr 2), (none, .inr 3), (some 108, .inl (.pointer (some ⟨gb, 0, none⟩))), (some 109, .inl (.pointer (some ⟨gb, 1, none⟩))), (none, .inr 4)]
theorem tq12_chk : chk tq12 tq12.size = true := by kernel_rfl
set_option maxRecDepth 4000 in
set_option maxHeartbeats 4000000 in
theorem tq12_c {Q : Exit → Act → World → Prop} {a0 : Act} {w : World} {B gb gO gE : Nat} {A Bf Cf D Kf : Int} {hd : Value → List Value} {P : Nat → Prop} {C : World → Value → List (NE) → Prop} {va : Option Addr} {vc : Nat} {l : List (NE)} (F : Foc neC 7 31 29 B gb 1 hd (fun w x => NEok P w x) C) (hz0 : a0.tmps.size = 500) (ar : Arr w.drew gb 78 (hd (.slice va l.length vc))) (hc : C w.drew (.slice va l.length vc) l) (hl : l.length ≤ 1000000)
    (h0 : a0.tmps[0]? = some (.pointer (some ⟨gb, 0, none⟩)))
    (hend : ∀ vs w', (∃ g c x, (fun _ => True) x ∧ Lat neC 31 gb w.drew hd (fun w x => NEok P w x) C (.slice va l.length vc) l g c x true w') → Q .normal (lay a0 (Lmx (tq12T gb gO gE A Bf Cf D va vc l.length) vs)) w') :
    (Code.region 12 tq12 true).wp Try.prog Q a0 w := by
  refine wp_region_mx (by rfl) (tq12T gb gO gE A Bf Cf D va vc l.length) [99, 100, 101, 102, 103, 104, 105, 106, 107, 108, 109] [none, none, none, none, some 5, none, some 0, some 1, some 2, some 3, none, none, some 4] [6, 7, 8, 9, 12, 4] rfl rfl rfl tq12_chk (by decide) (by decide) (by
    intro d hd
    rw [hz0]
    have : ∀ y ∈ [99, 100, 101, 102, 103, 104, 105, 106, 107, 108, 109], y < 500 := by decide
    exact this _ hd) (R2 neC 31 7 gb w.drew hd (fun w x => NEok P w x) (fun _ => True) C (.slice va l.length vc) l zE (fun _ => True)) (R2.start F ar hc) ?_ ?_
  · intro i d x hT listed vs a w' h
    match i, hT with
    | 0, hT =>
      obtain ⟨rfl, rfl⟩ := Prod.mk.inj (Option.some.inj (show some ((some 99 : Option Nat), (.inl (.pointer (some ⟨gb, 0, none⟩)) : Value ⊕ Nat)) = some (d, x) from hT))
      exact wpOp_of _ rfl rfl (v_move (.tmp 0) _ rfl (veval_of ((h.ot 0 (by decide)).trans h0)) ⟨rfl, rfl⟩)
    | 1, hT =>
      obtain ⟨rfl, rfl⟩ := Prod.mk.inj (Option.some.inj (show some ((some 100 : Option Nat), (.inl (.pointer (some ⟨gb, 0, none⟩)) : Value ⊕ Nat)) = some (d, x) from hT))
      exact wpOp_of _ rfl rfl (v_nil (.tmp 99) _ rfl (veval_of (h.val 0 99 _ rfl (by decide))) ⟨rfl, rfl⟩)
    | 2, hT =>
      obtain ⟨rfl, rfl⟩ := Prod.mk.inj (Option.some.inj (show some ((some 101 : Option Nat), (.inl (.pointer (some ⟨gb, 1, none⟩)) : Value ⊕ Nat)) = some (d, x) from hT))
      exact wpOp_of _ rfl rfl (v_f78 (.tmp 100) 1 _ 1 rfl (by decide) (veval_of (h.val 1 100 _ rfl (by decide))) ⟨rfl, rfl⟩)
    | 3, hT =>
      obtain ⟨rfl, rfl⟩ := Prod.mk.inj (Option.some.inj (show some ((some 102 : Option Nat), (.inl (.slice va l.length vc) : Value ⊕ Nat)) = some (d, x) from hT))
      have n1 := h.later 1 7 rfl 13 (by kernel_rfl)
      have q := (h.r.early n1).2.2.2.2
      exact wpOp_of _ rfl rfl (v_load29 (.tmp 101) _ _ _ rfl (veval_of (h.val 2 101 _ rfl (by decide))) ((q.ar.cell 1).trans (F.ge _)) ⟨rfl, rfl⟩)
    | 4, hT =>
      obtain ⟨rfl, rfl⟩ := Prod.mk.inj (Option.some.inj (show some ((some 103 : Option Nat), (.inr 5 : Value ⊕ Nat)) = some (d, x) from hT))
      have n1 := h.later 1 7 rfl 13 (by kernel_rfl)
      exact wpOp_of _ rfl rfl (v_b12  rfl  ⟨_, rfl, h.r.elem n1 ((⟨⟨2, 1, 0, 0, 0, 0⟩, .slice none 0 0, .nil, []⟩ : NE)) (⟨by constructor <;> simp [I64], rows_nil P w' 7, rfl⟩) (trivial)⟩)
    | 5, hT =>
      obtain ⟨rfl, rfl⟩ := Prod.mk.inj (Option.some.inj (show some ((some 104 : Option Nat), (.inl (.int .i64 ((l.length : Nat) : Int)) : Value ⊕ Nat)) = some (d, x) from hT))
      exact wpOp_of _ rfl rfl (v_len29 102 _ _ _ rfl rfl (h.val 3 102 _ rfl (by decide)) ⟨rfl, rfl⟩)
    | 6, hT =>
      obtain ⟨rfl, rfl⟩ := Prod.mk.inj (Option.some.inj (show some ((some 105 : Option Nat), (.inr 0 : Value ⊕ Nat)) = some (d, x) from hT))
      have n1 := h.later 1 7 rfl 13 (by kernel_rfl)
      exact wpOp_of _ rfl rfl (v_bz29 rfl ⟨_, rfl, h.r.alloc F n1 (zE_ok P w')⟩)
    | 7, hT =>
      obtain ⟨rfl, rfl⟩ := Prod.mk.inj (Option.some.inj (show some ((some 106 : Option Nat), (.inr 1 : Value ⊕ Nat)) = some (d, x) from hT))
      have n1 := h.not 1 rfl
      obtain ⟨u0, e0⟩ := h.has 0 6 rfl 13 (by kernel_rfl)
      obtain ⟨u5, e5⟩ := h.has 5 4 rfl 13 (by kernel_rfl)
      obtain ⟨g', c', w2, hrun, hR⟩ := h.r.app F n1 e0 e5 hl
      exact wpOp_of _ rfl rfl (v_append (.tmp 102) (.tmp 105) 29 rfl _ _ _ _ (veval_of (h.val 3 102 _ rfl (by decide))) (veval_of (h.vale 6 105 0 rfl (by decide) e0)) hrun ⟨_, rfl, hR⟩)
    | 8, hT =>
      obtain ⟨rfl, rfl⟩ := Prod.mk.inj (Option.some.inj (show some ((some 107 : Option Nat), (.inr 2 : Value ⊕ Nat)) = some (d, x) from hT))
      obtain ⟨u1, e1⟩ := h.has 1 7 rfl 13 (by kernel_rfl)
      obtain ⟨g', c', rfl, hR⟩ := h.r.idx e1
      exact wpOp_of _ rfl rfl (v_idx29 (.tmp 106) (.tmp 104) _ _ _ _ rfl (veval_of (h.vale 7 106 1 rfl (by decide) e1)) (veval_of (h.val 5 104 _ rfl (by decide))) (Nat.lt_succ_self _) ⟨_, rfl, hR⟩)
    | 9, hT =>
      obtain ⟨rfl, rfl⟩ := Prod.mk.inj (Option.some.inj (show some ((none : Option Nat), (.inr 3 : Value ⊕ Nat)) = some (d, x) from hT))
      obtain ⟨u1, e1⟩ := h.has 1 7 rfl 13 (by kernel_rfl)
      obtain ⟨u2, e2⟩ := h.has 2 8 rfl 13 (by kernel_rfl)
      obtain ⟨u5, e5⟩ := h.has 5 4 rfl 13 (by kernel_rfl)
      obtain ⟨g', y, rfl, rfl, ho, hcs, hfz, hR⟩ := h.r.store F e1 e2 e5
      obtain ⟨ka, kc, hk, -, -⟩ := ho.2.1.form
      obtain ⟨yf, yk, yt, yr⟩ := y
      simp only at hk
      subst hk
      exact wpOp_of _ rfl rfl (v_store31 (.tmp 107) (.tmp 103) _ _ _ _ _ _ _ _ _ _ _ rfl rfl (veval_of (h.vale 8 107 2 rfl (by decide) e2)) (veval_of (h.vale 4 103 5 rfl (by decide) e5)) hcs hfz ⟨.bool true, rfl, hR _⟩)
    | 10, hT =>
      obtain ⟨rfl, rfl⟩ := Prod.mk.inj (Option.some.inj (show some ((some 108 : Option Nat), (.inl (.pointer (some ⟨gb, 0, none⟩)) : Value ⊕ Nat)) = some (d, x) from hT))
      exact wpOp_of _ rfl rfl (v_nil (.tmp 99) _ rfl (veval_of (h.val 0 99 _ rfl (by decide))) ⟨rfl, rfl⟩)
    | 11, hT =>
      obtain ⟨rfl, rfl⟩ := Prod.mk.inj (Option.some.inj (show some ((some 109 : Option Nat), (.inl (.pointer (some ⟨gb, 1, none⟩)) : Value ⊕ Nat)) = some (d, x) from hT))
      exact wpOp_of _ rfl rfl (v_f78 (.tmp 108) 1 _ 1 rfl (by decide) (veval_of (h.val 10 108 _ rfl (by decide))) ⟨rfl, rfl⟩)
    | 12, hT =>
      obtain ⟨rfl, rfl⟩ := Prod.mk.inj (Option.some.inj (show some ((none : Option Nat), (.inr 4 : Value ⊕ Nat)) = some (d, x) from hT))
      obtain ⟨u1, e1⟩ := h.has 1 7 rfl 13 (by kernel_rfl)
      obtain ⟨b', m', c', rfl, ⟨u', hu'⟩, hfz, hR⟩ := h.r.hdr F e1
      exact wpOp_of _ rfl rfl (v_store29 (.tmp 109) (.tmp 106) _ _ _ _ _ _ rfl rfl (veval_of (h.val 11 109 _ rfl (by decide))) (veval_of (h.vale 7 106 1 rfl (by decide) e1)) hu' hfz ⟨.bool true, rfl, hR _⟩)
    | i + 13, hT => simp [tq12T] at hT
  · intro vs w' hv hR
    obtain ⟨u1, e1⟩ := hv 1 (by decide)
    obtain ⟨u3, e3⟩ := hv 3 (by decide)
    obtain ⟨u4, e4⟩ := hv 4 (by decide)
    exact hend vs w' (hR.fin e1 e3 e4)
def tq16 : Array Oper := #[{ dst := some 125, op := Go.Op.move (Go.Operand.tmp 0), type := 75, pos := "build.go:115", after := #[], guard := none }, { dst := some 126, op := Go.Op.nilCheck (Go.Operand.tmp 125), type := 0, pos := "build.go:115", after := #[{ on := 0, ground := Go.Ground.data }], guard := none }, { dst := some 127, op := Go.Op.fieldAddr 78 (Go.Operand.tmp 126) 1, type := 0, pos := "build.go:115", after := #[{ on := 1, ground := Go.Ground.data }], guard := none }, { dst := some 128, op := Go.Op.load 29 (Go.Operand.tmp 127), type := 29, pos := "build.go:115", after := #[{ on := 2, ground := Go.Ground.data }], guard := none }, { dst := some 129, op := Go.Op.load 31 (Go.Operand.tmp 5), type := 31, pos := "build.go:115", after := #[], guard := none }, { dst := some 130, op := Go.Op.call { callee := Go.Callee.builtin Go.Builtin.len, args := #[Go.Operand.tmp 128], argTypes := #[29] }, type := 3, pos := "build.go:115", after := #[{ on := 3, ground := Go.Ground.data }], guard := none }, { dst := some 131, op := Go.Op.buildSlice 29 1 #[(0, Go.Operand.const (Go.Value.agg #[Go.Value.int Go.IntKind.i64 0, Go.Value.int Go.IntKind.i64 0, Go.Value.int Go.IntKind.i64 0, Go.Value.int Go.IntKind.u64 0, Go.Value.int Go.IntKind.i64 0, Go.Value.int Go.IntKind.i64 0, Go.Value.slice none 0 0]))], type := 29, pos := "build.go:115", after := #[], guard := none }, { dst := some 132, op := Go.Op.call { callee := Go.Callee.builtin Go.Builtin.append, args := #[Go.Operand.tmp 128, Go.Operand.tmp 131], argTypes := #[29, 29] }, type := 29, pos := "build.go:115", after := #[{ on := 3, ground := Go.Ground.data }, { on := 6, ground := Go.Ground.data }, { on := 0, ground := Go.Ground.phase }, { on := 1, ground := Go.Ground.phase }, { on := 2, ground := Go.Ground.phase }, { on := 3, ground := Go.Ground.phase }, { on := 4, ground := Go.Ground.phase }, { on := 5, ground := Go.Ground.phase }, { on := 6, ground := Go.Ground.phase }], guard := none }, { dst := some 133, op := Go.Op.indexAddr 29 (Go.Operand.tmp 132) (Go.Operand.tmp 130), type := 0, pos := "build.go:115", after := #[{ on := 7, ground := Go.Ground.data }, { on := 5, ground := Go.Ground.data }, { on := 0, ground := Go.Ground.phase }, { on := 1, ground := Go.Ground.phase }, { on := 2, ground := Go.Ground.phase }, { on := 3, ground := Go.Ground.phase }, { on := 4, ground := Go.Ground.phase }, { on := 5, ground := Go.Ground.phase }, { on := 6, ground := Go.Ground.phase }, { on := 7, ground := Go.Ground.phase }, { on := 12, ground := Go.Ground.gcOnly Go.Departure.appendInPlace }], guard := none }, { dst := none, op := Go.Op.store 31 (Go.Operand.tmp 133) (Go.Operand.tmp 129), type := 0, pos := "build.go:115", after := #[{ on := 8, ground := Go.Ground.data }, { on := 4, ground := Go.Ground.data }, { on := 7, ground := Go.Ground.chain }, { on := 0, ground := Go.Ground.phase }, { on := 1, ground := Go.Ground.phase }, { on := 2, ground := Go.Ground.phase }, { on := 3, ground := Go.Ground.phase }, { on := 4, ground := Go.Ground.phase }, { on := 5, ground := Go.Ground.phase }, { on := 6, ground := Go.Ground.phase }, { on := 7, ground := Go.Ground.phase }, { on := 12, ground := Go.Ground.gcOnly Go.Departure.appendInPlace }], guard := none }, { dst := some 134, op := Go.Op.nilCheck (Go.Operand.tmp 125), type := 0, pos := "build.go:115", after := #[{ on := 0, ground := Go.Ground.data }, { on := 0, ground := Go.Ground.phase }, { on := 1, ground := Go.Ground.phase }, { on := 2, ground := Go.Ground.phase }, { on := 3, ground := Go.Ground.phase }, { on := 4, ground := Go.Ground.phase }, { on := 5, ground := Go.Ground.phase }, { on := 6, ground := Go.Ground.phase }, { on := 7, ground := Go.Ground.phase }, { on := 8, ground := Go.Ground.textOnly Go.Departure.appendInPlace }, { on := 9, ground := Go.Ground.textOnly Go.Departure.appendInPlace }], guard := none }, { dst := some 135, op := Go.Op.fieldAddr 78 (Go.Operand.tmp 134) 1, type := 0, pos := "build.go:115", after := #[{ on := 10, ground := Go.Ground.data }, { on := 0, ground := Go.Ground.phase }, { on := 1, ground := Go.Ground.phase }, { on := 2, ground := Go.Ground.phase }, { on := 3, ground := Go.Ground.phase }, { on := 4, ground := Go.Ground.phase }, { on := 5, ground := Go.Ground.phase }, { on := 6, ground := Go.Ground.phase }, { on := 7, ground := Go.Ground.phase }, { on := 8, ground := Go.Ground.textOnly Go.Departure.appendInPlace }, { on := 9, ground := Go.Ground.textOnly Go.Departure.appendInPlace }], guard := none }, { dst := none, op := Go.Op.store 29 (Go.Operand.tmp 135) (Go.Operand.tmp 132), type := 0, pos := "build.go:115", after := #[{ on := 11, ground := Go.Ground.data }, { on := 7, ground := Go.Ground.data }, { on := 7, ground := Go.Ground.chain }, { on := 9, ground := Go.Ground.textOnly Go.Departure.appendInPlace }, { on := 0, ground := Go.Ground.phase }, { on := 1, ground := Go.Ground.phase }, { on := 2, ground := Go.Ground.phase }, { on := 3, ground := Go.Ground.phase }, { on := 4, ground := Go.Ground.phase }, { on := 5, ground := Go.Ground.phase }, { on := 6, ground := Go.Ground.phase }, { on := 7, ground := Go.Ground.phase }, { on := 8, ground := Go.Ground.textOnly Go.Departure.appendInPlace }, { on := 9, ground := Go.Ground.textOnly Go.Departure.appendInPlace }], guard := none }]
def tq16T (gb gO gE : Nat) (A Bf Cf D : Int) (va : Option Addr) (vc n : Nat) : List (Option Nat × (Value ⊕ Nat)) := [(some 125, .inl (.pointer (some ⟨gb, 0, none⟩))), (some 126, .inl (.pointer (some ⟨gb, 0, none⟩))), (some 127, .inl (.pointer (some ⟨gb, 1, none⟩))), (some 128, .inl (.slice va n vc)), (some 129, .inr 5), (some 130, .inl (.int .i64 ((n : Nat) : Int))), (some 131, .inr 0), (some 132, .inr 1), (some 133, .inr 2), (none, .inr 3), (some 134, .inl (.pointer (some ⟨gb, 0, none⟩))), (some 135, .inl (.pointer (some ⟨gb, 1, none⟩))), (none, .inr 4)]
theorem tq16_chk : chk tq16 tq16.size = true := by kernel_rfl
set_option maxRecDepth 4000 in
set_option maxHeartbeats 4000000 in
theorem tq16_c {Q : Exit → Act → World → Prop} {a0 : Act} {w : World} {B gb gO gE : Nat} {A Bf Cf D Kf : Int} {hd : Value → List Value} {P : Nat → Prop} {C : World → Value → List (NE) → Prop} {va : Option Addr} {vc : Nat} {l : List (NE)} (F : Foc neC 7 31 29 B gb 1 hd (fun w x => NEok P w x) C) (hz0 : a0.tmps.size = 500) (ar : Arr w.drew gb 78 (hd (.slice va l.length vc))) (hc : C w.drew (.slice va l.length vc) l) (hl : l.length ≤ 1000000)
    (h0 : a0.tmps[0]? = some (.pointer (some ⟨gb, 0, none⟩)))
    (h5 : a0.tmps[5]? = some (.pointer (some ⟨gE, 0, none⟩)))
    (x9 : NE) (harE : Arr w.drew gE 31 (neC x9)) (hgE : gE ≠ gb) (hgE2 : (Value.slice va l.length vc).ownBlock ≠ some gE) (hx : NEok P w.drew x9) (hxp : True)
    (hend : ∀ vs w', (∃ g c x, (fun _ => True) x ∧ Lat neC 31 gb w.drew hd (fun w x => NEok P w x) C (.slice va l.length vc) l g c x true w') → Q .normal (lay a0 (Lmx (tq16T gb gO gE A Bf Cf D va vc l.length) vs)) w') :
    (Code.region 16 tq16 true).wp Try.prog Q a0 w := by
  refine wp_region_mx (by rfl) (tq16T gb gO gE A Bf Cf D va vc l.length) [125, 126, 127, 128, 129, 130, 131, 132, 133, 134, 135] [none, none, none, none, some 5, none, some 0, some 1, some 2, some 3, none, none, some 4] [6, 7, 8, 9, 12, 4] rfl rfl rfl tq16_chk (by decide) (by decide) (by
    intro d hd
    rw [hz0]
    have : ∀ y ∈ [125, 126, 127, 128, 129, 130, 131, 132, 133, 134, 135], y < 500 := by decide
    exact this _ hd) (R2 neC 31 7 gb w.drew hd (fun w x => NEok P w x) (fun _ => True) C (.slice va l.length vc) l zE (fun _ => True)) (R2.start F ar hc) ?_ ?_
  · intro i d x hT listed vs a w' h
    match i, hT with
    | 0, hT =>
      obtain ⟨rfl, rfl⟩ := Prod.mk.inj (Option.some.inj (show some ((some 125 : Option Nat), (.inl (.pointer (some ⟨gb, 0, none⟩)) : Value ⊕ Nat)) = some (d, x) from hT))
      exact wpOp_of _ rfl rfl (v_move (.tmp 0) _ rfl (veval_of ((h.ot 0 (by decide)).trans h0)) ⟨rfl, rfl⟩)
    | 1, hT =>
      obtain ⟨rfl, rfl⟩ := Prod.mk.inj (Option.some.inj (show some ((some 126 : Option Nat), (.inl (.pointer (some ⟨gb, 0, none⟩)) : Value ⊕ Nat)) = some (d, x) from hT))
      exact wpOp_of _ rfl rfl (v_nil (.tmp 125) _ rfl (veval_of (h.val 0 125 _ rfl (by decide))) ⟨rfl, rfl⟩)
    | 2, hT =>
      obtain ⟨rfl, rfl⟩ := Prod.mk.inj (Option.some.inj (show some ((some 127 : Option Nat), (.inl (.pointer (some ⟨gb, 1, none⟩)) : Value ⊕ Nat)) = some (d, x) from hT))
      exact wpOp_of _ rfl rfl (v_f78 (.tmp 126) 1 _ 1 rfl (by decide) (veval_of (h.val 1 126 _ rfl (by decide))) ⟨rfl, rfl⟩)
    | 3, hT =>
      obtain ⟨rfl, rfl⟩ := Prod.mk.inj (Option.some.inj (show some ((some 128 : Option Nat), (.inl (.slice va l.length vc) : Value ⊕ Nat)) = some (d, x) from hT))
      have n1 := h.later 1 7 rfl 13 (by kernel_rfl)
      have q := (h.r.early n1).2.2.2.2
      exact wpOp_of _ rfl rfl (v_load29 (.tmp 127) _ _ _ rfl (veval_of (h.val 2 127 _ rfl (by decide))) ((q.ar.cell 1).trans (F.ge _)) ⟨rfl, rfl⟩)
    | 4, hT =>
      obtain ⟨rfl, rfl⟩ := Prod.mk.inj (Option.some.inj (show some ((some 129 : Option Nat), (.inr 5 : Value ⊕ Nat)) = some (d, x) from hT))
      have n1 := h.later 1 7 rfl 13 (by kernel_rfl)
      have q := (h.r.early n1).2.2.2.2
      have hab := q.fr.arr (fun z => z.elim hgE hgE2) harE
      have hok := F.okf hc ar hx q.fr (fun q a => a.elim (fun e => Or.inr (Or.inr e)) Or.inl)
      exact wpOp_of _ rfl rfl (v_load31 (.tmp 5) _ _ _ _ _ _ _ _ rfl (veval_of ((h.ot 5 (by decide)).trans h5)) (hab.cell 0) (hab.cell 1) (hab.cell 2) (hab.cell 3) (hab.cell 4) (hab.cell 5) (hab.cell 6) ⟨_, rfl, h.r.elem n1 x9 hok (hxp)⟩)
    | 5, hT =>
      obtain ⟨rfl, rfl⟩ := Prod.mk.inj (Option.some.inj (show some ((some 130 : Option Nat), (.inl (.int .i64 ((l.length : Nat) : Int)) : Value ⊕ Nat)) = some (d, x) from hT))
      exact wpOp_of _ rfl rfl (v_len29 128 _ _ _ rfl rfl (h.val 3 128 _ rfl (by decide)) ⟨rfl, rfl⟩)
    | 6, hT =>
      obtain ⟨rfl, rfl⟩ := Prod.mk.inj (Option.some.inj (show some ((some 131 : Option Nat), (.inr 0 : Value ⊕ Nat)) = some (d, x) from hT))
      have n1 := h.later 1 7 rfl 13 (by kernel_rfl)
      exact wpOp_of _ rfl rfl (v_bz29 rfl ⟨_, rfl, h.r.alloc F n1 (zE_ok P w')⟩)
    | 7, hT =>
      obtain ⟨rfl, rfl⟩ := Prod.mk.inj (Option.some.inj (show some ((some 132 : Option Nat), (.inr 1 : Value ⊕ Nat)) = some (d, x) from hT))
      have n1 := h.not 1 rfl
      obtain ⟨u0, e0⟩ := h.has 0 6 rfl 13 (by kernel_rfl)
      obtain ⟨u5, e5⟩ := h.has 5 4 rfl 13 (by kernel_rfl)
      obtain ⟨g', c', w2, hrun, hR⟩ := h.r.app F n1 e0 e5 hl
      exact wpOp_of _ rfl rfl (v_append (.tmp 128) (.tmp 131) 29 rfl _ _ _ _ (veval_of (h.val 3 128 _ rfl (by decide))) (veval_of (h.vale 6 131 0 rfl (by decide) e0)) hrun ⟨_, rfl, hR⟩)
    | 8, hT =>
      obtain ⟨rfl, rfl⟩ := Prod.mk.inj (Option.some.inj (show some ((some 133 : Option Nat), (.inr 2 : Value ⊕ Nat)) = some (d, x) from hT))
      obtain ⟨u1, e1⟩ := h.has 1 7 rfl 13 (by kernel_rfl)
      obtain ⟨g', c', rfl, hR⟩ := h.r.idx e1
      exact wpOp_of _ rfl rfl (v_idx29 (.tmp 132) (.tmp 130) _ _ _ _ rfl (veval_of (h.vale 7 132 1 rfl (by decide) e1)) (veval_of (h.val 5 130 _ rfl (by decide))) (Nat.lt_succ_self _) ⟨_, rfl, hR⟩)
    | 9, hT =>
      obtain ⟨rfl, rfl⟩ := Prod.mk.inj (Option.some.inj (show some ((none : Option Nat), (.inr 3 : Value ⊕ Nat)) = some (d, x) from hT))
      obtain ⟨u1, e1⟩ := h.has 1 7 rfl 13 (by kernel_rfl)
      obtain ⟨u2, e2⟩ := h.has 2 8 rfl 13 (by kernel_rfl)
      obtain ⟨u5, e5⟩ := h.has 5 4 rfl 13 (by kernel_rfl)
      obtain ⟨g', y, rfl, rfl, ho, hcs, hfz, hR⟩ := h.r.store F e1 e2 e5
      obtain ⟨ka, kc, hk, -, -⟩ := ho.2.1.form
      obtain ⟨yf, yk, yt, yr⟩ := y
      simp only at hk
      subst hk
      exact wpOp_of _ rfl rfl (v_store31 (.tmp 133) (.tmp 129) _ _ _ _ _ _ _ _ _ _ _ rfl rfl (veval_of (h.vale 8 133 2 rfl (by decide) e2)) (veval_of (h.vale 4 129 5 rfl (by decide) e5)) hcs hfz ⟨.bool true, rfl, hR _⟩)
    | 10, hT =>
      obtain ⟨rfl, rfl⟩ := Prod.mk.inj (Option.some.inj (show some ((some 134 : Option Nat), (.inl (.pointer (some ⟨gb, 0, none⟩)) : Value ⊕ Nat)) = some (d, x) from hT))
      exact wpOp_of _ rfl rfl (v_nil (.tmp 125) _ rfl (veval_of (h.val 0 125 _ rfl (by decide))) ⟨rfl, rfl⟩)
    | 11, hT =>
      obtain ⟨rfl, rfl⟩ := Prod.mk.inj (Option.some.inj (show some ((some 135 : Option Nat), (.inl (.pointer (some ⟨gb, 1, none⟩)) : Value ⊕ Nat)) = some (d, x) from hT))
      exact wpOp_of _ rfl rfl (v_f78 (.tmp 134) 1 _ 1 rfl (by decide) (veval_of (h.val 10 134 _ rfl (by decide))) ⟨rfl, rfl⟩)
    | 12, hT =>
      obtain ⟨rfl, rfl⟩ := Prod.mk.inj (Option.some.inj (show some ((none : Option Nat), (.inr 4 : Value ⊕ Nat)) = some (d, x) from hT))
      obtain ⟨u1, e1⟩ := h.has 1 7 rfl 13 (by kernel_rfl)
      obtain ⟨b', m', c', rfl, ⟨u', hu'⟩, hfz, hR⟩ := h.r.hdr F e1
      exact wpOp_of _ rfl rfl (v_store29 (.tmp 135) (.tmp 132) _ _ _ _ _ _ rfl rfl (veval_of (h.val 11 135 _ rfl (by decide))) (veval_of (h.vale 7 132 1 rfl (by decide) e1)) hu' hfz ⟨.bool true, rfl, hR _⟩)
    | i + 13, hT => simp [tq16T] at hT
  · intro vs w' hv hR
    obtain ⟨u1, e1⟩ := hv 1 (by decide)
    obtain ⟨u3, e3⟩ := hv 3 (by decide)
    obtain ⟨u4, e4⟩ := hv 4 (by decide)
    exact hend vs w' (hR.fin e1 e3 e4)
def tq23 : Array Oper := #[{ dst := some 167, op := Go.Op.move (Go.Operand.tmp 0), type := 75, pos := "build.go:124", after := #[], guard := none }, { dst := some 168, op := Go.Op.nilCheck (Go.Operand.tmp 167), type := 0, pos := "build.go:124", after := #[{ on := 0, ground := Go.Ground.data }], guard := none }, { dst := some 169, op := Go.Op.fieldAddr 78 (Go.Operand.tmp 168) 1, type := 0, pos := "build.go:124", after := #[{ on := 1, ground := Go.Ground.data }], guard := none }, { dst := some 170, op := Go.Op.load 29 (Go.Operand.tmp 169), type := 29, pos := "build.go:124", after := #[{ on := 2, ground := Go.Ground.data }], guard := none }, { dst := some 171, op := Go.Op.load 31 (Go.Operand.tmp 6), type := 31, pos := "build.go:124", after := #[], guard := none }, { dst := some 172, op := Go.Op.call { callee := Go.Callee.builtin Go.Builtin.len, args := #[Go.Operand.tmp 170], argTypes := #[29] }, type := 3, pos := "build.go:124", after := #[{ on := 3, ground := Go.Ground.data }], guard := none }, { dst := some 173, op := Go.Op.buildSlice 29 1 #[(0, Go.Operand.const (Go.Value.agg #[Go.Value.int Go.IntKind.i64 0, Go.Value.int Go.IntKind.i64 0, Go.Value.int Go.IntKind.i64 0, Go.Value.int Go.IntKind.u64 0, Go.Value.int Go.IntKind.i64 0, Go.Value.int Go.IntKind.i64 0, Go.Value.slice none 0 0]))], type := 29, pos := "build.go:124", after := #[], guard := none }, { dst := some 174, op := Go.Op.call { callee := Go.Callee.builtin Go.Builtin.append, args := #[Go.Operand.tmp 170, Go.Operand.tmp 173], argTypes := #[29, 29] }, type := 29, pos := "build.go:124", after := #[{ on := 3, ground := Go.Ground.data }, { on := 6, ground := Go.Ground.data }, { on := 0, ground := Go.Ground.phase }, { on := 1, ground := Go.Ground.phase }, { on := 2, ground := Go.Ground.phase }, { on := 3, ground := Go.Ground.phase }, { on := 4, ground := Go.Ground.phase }, { on := 5, ground := Go.Ground.phase }, { on := 6, ground := Go.Ground.phase }], guard := none }, { dst := some 175, op := Go.Op.indexAddr 29 (Go.Operand.tmp 174) (Go.Operand.tmp 172), type := 0, pos := "build.go:124", after := #[{ on := 7, ground := Go.Ground.data }, { on := 5, ground := Go.Ground.data }, { on := 0, ground := Go.Ground.phase }, { on := 1, ground := Go.Ground.phase }, { on := 2, ground := Go.Ground.phase }, { on := 3, ground := Go.Ground.phase }, { on := 4, ground := Go.Ground.phase }, { on := 5, ground := Go.Ground.phase }, { on := 6, ground := Go.Ground.phase }, { on := 7, ground := Go.Ground.phase }, { on := 12, ground := Go.Ground.gcOnly Go.Departure.appendInPlace }], guard := none }, { dst := none, op := Go.Op.store 31 (Go.Operand.tmp 175) (Go.Operand.tmp 171), type := 0, pos := "build.go:124", after := #[{ on := 8, ground := Go.Ground.data }, { on := 4, ground := Go.Ground.data }, { on := 7, ground := Go.Ground.chain }, { on := 0, ground := Go.Ground.phase }, { on := 1, ground := Go.Ground.phase }, { on := 2, ground := Go.Ground.phase }, { on := 3, ground := Go.Ground.phase }, { on := 4, ground := Go.Ground.phase }, { on := 5, ground := Go.Ground.phase }, { on := 6, ground := Go.Ground.phase }, { on := 7, ground := Go.Ground.phase }, { on := 12, ground := Go.Ground.gcOnly Go.Departure.appendInPlace }], guard := none }, { dst := some 176, op := Go.Op.nilCheck (Go.Operand.tmp 167), type := 0, pos := "build.go:124", after := #[{ on := 0, ground := Go.Ground.data }, { on := 0, ground := Go.Ground.phase }, { on := 1, ground := Go.Ground.phase }, { on := 2, ground := Go.Ground.phase }, { on := 3, ground := Go.Ground.phase }, { on := 4, ground := Go.Ground.phase }, { on := 5, ground := Go.Ground.phase }, { on := 6, ground := Go.Ground.phase }, { on := 7, ground := Go.Ground.phase }, { on := 8, ground := Go.Ground.textOnly Go.Departure.appendInPlace }, { on := 9, ground := Go.Ground.textOnly Go.Departure.appendInPlace }], guard := none }, { dst := some 177, op := Go.Op.fieldAddr 78 (Go.Operand.tmp 176) 1, type := 0, pos := "build.go:124", after := #[{ on := 10, ground := Go.Ground.data }, { on := 0, ground := Go.Ground.phase }, { on := 1, ground := Go.Ground.phase }, { on := 2, ground := Go.Ground.phase }, { on := 3, ground := Go.Ground.phase }, { on := 4, ground := Go.Ground.phase }, { on := 5, ground := Go.Ground.phase }, { on := 6, ground := Go.Ground.phase }, { on := 7, ground := Go.Ground.phase }, { on := 8, ground := Go.Ground.textOnly Go.Departure.appendInPlace }, { on := 9, ground := Go.Ground.textOnly Go.Departure.appendInPlace }], guard := none }, { dst := none, op := Go.Op.store 29 (Go.Operand.tmp 177) (Go.Operand.tmp 174), type := 0, pos := "build.go:124", after := #[{ on := 11, ground := Go.Ground.data }, { on := 7, ground := Go.Ground.data }, { on := 7, ground := Go.Ground.chain }, { on := 9, ground := Go.Ground.textOnly Go.Departure.appendInPlace }, { on := 0, ground := Go.Ground.phase }, { on := 1, ground := Go.Ground.phase }, { on := 2, ground := Go.Ground.phase }, { on := 3, ground := Go.Ground.phase }, { on := 4, ground := Go.Ground.phase }, { on := 5, ground := Go.Ground.phase }, { on := 6, ground := Go.Ground.phase }, { on := 7, ground := Go.Ground.phase }, { on := 8, ground := Go.Ground.textOnly Go.Departure.appendInPlace }, { on := 9, ground := Go.Ground.textOnly Go.Departure.appendInPlace }], guard := none }]
def tq23T (gb gO gE : Nat) (A Bf Cf D : Int) (va : Option Addr) (vc n : Nat) : List (Option Nat × (Value ⊕ Nat)) := [(some 167, .inl (.pointer (some ⟨gb, 0, none⟩))), (some 168, .inl (.pointer (some ⟨gb, 0, none⟩))), (some 169, .inl (.pointer (some ⟨gb, 1, none⟩))), (some 170, .inl (.slice va n vc)), (some 171, .inr 5), (some 172, .inl (.int .i64 ((n : Nat) : Int))), (some 173, .inr 0), (some 174, .inr 1), (some 175, .inr 2), (none, .inr 3), (some 176, .inl (.pointer (some ⟨gb, 0, none⟩))), (some 177, .inl (.pointer (some ⟨gb, 1, none⟩))), (none, .inr 4)]
theorem tq23_chk : chk tq23 tq23.size = true := by kernel_rfl
set_option maxRecDepth 4000 in
set_option maxHeartbeats 4000000 in
theorem tq23_c {Q : Exit → Act → World → Prop} {a0 : Act} {w : World} {B gb gO gE : Nat} {A Bf Cf D Kf : Int} {hd : Value → List Value} {P : Nat → Prop} {C : World → Value → List (NE) → Prop} {va : Option Addr} {vc : Nat} {l : List (NE)} (F : Foc neC 7 31 29 B gb 1 hd (fun w x => NEok P w x) C) (hz0 : a0.tmps.size = 500) (ar : Arr w.drew gb 78 (hd (.slice va l.length vc))) (hc : C w.drew (.slice va l.length vc) l) (hl : l.length ≤ 1000000)
    (h0 : a0.tmps[0]? = some (.pointer (some ⟨gb, 0, none⟩)))
    (h6 : a0.tmps[6]? = some (.pointer (some ⟨gE, 0, none⟩)))
    (x9 : NE) (harE : Arr w.drew gE 31 (neC x9)) (hgE : gE ≠ gb) (hgE2 : (Value.slice va l.length vc).ownBlock ≠ some gE) (hx : NEok P w.drew x9) (hxp : True)
    (hend : ∀ vs w', (∃ g c x, (fun _ => True) x ∧ Lat neC 31 gb w.drew hd (fun w x => NEok P w x) C (.slice va l.length vc) l g c x true w') → Q .normal (lay a0 (Lmx (tq23T gb gO gE A Bf Cf D va vc l.length) vs)) w') :
    (Code.region 23 tq23 true).wp Try.prog Q a0 w := by
  refine wp_region_mx (by rfl) (tq23T gb gO gE A Bf Cf D va vc l.length) [167, 168, 169, 170, 171, 172, 173, 174, 175, 176, 177] [none, none, none, none, some 5, none, some 0, some 1, some 2, some 3, none, none, some 4] [6, 7, 8, 9, 12, 4] rfl rfl rfl tq23_chk (by decide) (by decide) (by
    intro d hd
    rw [hz0]
    have : ∀ y ∈ [167, 168, 169, 170, 171, 172, 173, 174, 175, 176, 177], y < 500 := by decide
    exact this _ hd) (R2 neC 31 7 gb w.drew hd (fun w x => NEok P w x) (fun _ => True) C (.slice va l.length vc) l zE (fun _ => True)) (R2.start F ar hc) ?_ ?_
  · intro i d x hT listed vs a w' h
    match i, hT with
    | 0, hT =>
      obtain ⟨rfl, rfl⟩ := Prod.mk.inj (Option.some.inj (show some ((some 167 : Option Nat), (.inl (.pointer (some ⟨gb, 0, none⟩)) : Value ⊕ Nat)) = some (d, x) from hT))
      exact wpOp_of _ rfl rfl (v_move (.tmp 0) _ rfl (veval_of ((h.ot 0 (by decide)).trans h0)) ⟨rfl, rfl⟩)
    | 1, hT =>
      obtain ⟨rfl, rfl⟩ := Prod.mk.inj (Option.some.inj (show some ((some 168 : Option Nat), (.inl (.pointer (some ⟨gb, 0, none⟩)) : Value ⊕ Nat)) = some (d, x) from hT))
      exact wpOp_of _ rfl rfl (v_nil (.tmp 167) _ rfl (veval_of (h.val 0 167 _ rfl (by decide))) ⟨rfl, rfl⟩)
    | 2, hT =>
      obtain ⟨rfl, rfl⟩ := Prod.mk.inj (Option.some.inj (show some ((some 169 : Option Nat), (.inl (.pointer (some ⟨gb, 1, none⟩)) : Value ⊕ Nat)) = some (d, x) from hT))
      exact wpOp_of _ rfl rfl (v_f78 (.tmp 168) 1 _ 1 rfl (by decide) (veval_of (h.val 1 168 _ rfl (by decide))) ⟨rfl, rfl⟩)
    | 3, hT =>
      obtain ⟨rfl, rfl⟩ := Prod.mk.inj (Option.some.inj (show some ((some 170 : Option Nat), (.inl (.slice va l.length vc) : Value ⊕ Nat)) = some (d, x) from hT))
      have n1 := h.later 1 7 rfl 13 (by kernel_rfl)
      have q := (h.r.early n1).2.2.2.2
      exact wpOp_of _ rfl rfl (v_load29 (.tmp 169) _ _ _ rfl (veval_of (h.val 2 169 _ rfl (by decide))) ((q.ar.cell 1).trans (F.ge _)) ⟨rfl, rfl⟩)
    | 4, hT =>
      obtain ⟨rfl, rfl⟩ := Prod.mk.inj (Option.some.inj (show some ((some 171 : Option Nat), (.inr 5 : Value ⊕ Nat)) = some (d, x) from hT))
      have n1 := h.later 1 7 rfl 13 (by kernel_rfl)
      have q := (h.r.early n1).2.2.2.2
      have hab := q.fr.arr (fun z => z.elim hgE hgE2) harE
      have hok := F.okf hc ar hx q.fr (fun q a => a.elim (fun e => Or.inr (Or.inr e)) Or.inl)
      exact wpOp_of _ rfl rfl (v_load31 (.tmp 6) _ _ _ _ _ _ _ _ rfl (veval_of ((h.ot 6 (by decide)).trans h6)) (hab.cell 0) (hab.cell 1) (hab.cell 2) (hab.cell 3) (hab.cell 4) (hab.cell 5) (hab.cell 6) ⟨_, rfl, h.r.elem n1 x9 hok (hxp)⟩)
    | 5, hT =>
      obtain ⟨rfl, rfl⟩ := Prod.mk.inj (Option.some.inj (show some ((some 172 : Option Nat), (.inl (.int .i64 ((l.length : Nat) : Int)) : Value ⊕ Nat)) = some (d, x) from hT))
      exact wpOp_of _ rfl rfl (v_len29 170 _ _ _ rfl rfl (h.val 3 170 _ rfl (by decide)) ⟨rfl, rfl⟩)
    | 6, hT =>
      obtain ⟨rfl, rfl⟩ := Prod.mk.inj (Option.some.inj (show some ((some 173 : Option Nat), (.inr 0 : Value ⊕ Nat)) = some (d, x) from hT))
      have n1 := h.later 1 7 rfl 13 (by kernel_rfl)
      exact wpOp_of _ rfl rfl (v_bz29 rfl ⟨_, rfl, h.r.alloc F n1 (zE_ok P w')⟩)
    | 7, hT =>
      obtain ⟨rfl, rfl⟩ := Prod.mk.inj (Option.some.inj (show some ((some 174 : Option Nat), (.inr 1 : Value ⊕ Nat)) = some (d, x) from hT))
      have n1 := h.not 1 rfl
      obtain ⟨u0, e0⟩ := h.has 0 6 rfl 13 (by kernel_rfl)
      obtain ⟨u5, e5⟩ := h.has 5 4 rfl 13 (by kernel_rfl)
      obtain ⟨g', c', w2, hrun, hR⟩ := h.r.app F n1 e0 e5 hl
      exact wpOp_of _ rfl rfl (v_append (.tmp 170) (.tmp 173) 29 rfl _ _ _ _ (veval_of (h.val 3 170 _ rfl (by decide))) (veval_of (h.vale 6 173 0 rfl (by decide) e0)) hrun ⟨_, rfl, hR⟩)
    | 8, hT =>
      obtain ⟨rfl, rfl⟩ := Prod.mk.inj (Option.some.inj (show some ((some 175 : Option Nat), (.inr 2 : Value ⊕ Nat)) = some (d, x) from hT))
      obtain ⟨u1, e1⟩ := h.has 1 7 rfl 13 (by kernel_rfl)
      obtain ⟨g', c', rfl, hR⟩ := h.r.idx e1
      exact wpOp_of _ rfl rfl (v_idx29 (.tmp 174) (.tmp 172) _ _ _ _ rfl (veval_of (h.vale 7 174 1 rfl (by decide) e1)) (veval_of (h.val 5 172 _ rfl (by decide))) (Nat.lt_succ_self _) ⟨_, rfl, hR⟩)
    | 9, hT =>
      obtain ⟨rfl, rfl⟩ := Prod.mk.inj (Option.some.inj (show some ((none : Option Nat), (.inr 3 : Value ⊕ Nat)) = some (d, x) from hT))
      obtain ⟨u1, e1⟩ := h.has 1 7 rfl 13 (by kernel_rfl)
      obtain ⟨u2, e2⟩ := h.has 2 8 rfl 13 (by kernel_rfl)
      obtain ⟨u5, e5⟩ := h.has 5 4 rfl 13 (by kernel_rfl)
      obtain ⟨g', y, rfl, rfl, ho, hcs, hfz, hR⟩ := h.r.store F e1 e2 e5
      obtain ⟨ka, kc, hk, -, -⟩ := ho.2.1.form
      obtain ⟨yf, yk, yt, yr⟩ := y
      simp only at hk
      subst hk
      exact wpOp_of _ rfl rfl (v_store31 (.tmp 175) (.tmp 171) _ _ _ _ _ _ _ _ _ _ _ rfl rfl (veval_of (h.vale 8 175 2 rfl (by decide) e2)) (veval_of (h.vale 4 171 5 rfl (by decide) e5)) hcs hfz ⟨.bool true, rfl, hR _⟩)
    | 10, hT =>
      obtain ⟨rfl, rfl⟩ := Prod.mk.inj (Option.some.inj (show some ((some 176 : Option Nat), (.inl (.pointer (some ⟨gb, 0, none⟩)) : Value ⊕ Nat)) = some (d, x) from hT))
      exact wpOp_of _ rfl rfl (v_nil (.tmp 167) _ rfl (veval_of (h.val 0 167 _ rfl (by decide))) ⟨rfl, rfl⟩)
    | 11, hT =>
      obtain ⟨rfl, rfl⟩ := Prod.mk.inj (Option.some.inj (show some ((some 177 : Option Nat), (.inl (.pointer (some ⟨gb, 1, none⟩)) : Value ⊕ Nat)) = some (d, x) from hT))
      exact wpOp_of _ rfl rfl (v_f78 (.tmp 176) 1 _ 1 rfl (by decide) (veval_of (h.val 10 176 _ rfl (by decide))) ⟨rfl, rfl⟩)
    | 12, hT =>
      obtain ⟨rfl, rfl⟩ := Prod.mk.inj (Option.some.inj (show some ((none : Option Nat), (.inr 4 : Value ⊕ Nat)) = some (d, x) from hT))
      obtain ⟨u1, e1⟩ := h.has 1 7 rfl 13 (by kernel_rfl)
      obtain ⟨b', m', c', rfl, ⟨u', hu'⟩, hfz, hR⟩ := h.r.hdr F e1
      exact wpOp_of _ rfl rfl (v_store29 (.tmp 177) (.tmp 174) _ _ _ _ _ _ rfl rfl (veval_of (h.val 11 177 _ rfl (by decide))) (veval_of (h.vale 7 174 1 rfl (by decide) e1)) hu' hfz ⟨.bool true, rfl, hR _⟩)
    | i + 13, hT => simp [tq23T] at hT
  · intro vs w' hv hR
    obtain ⟨u1, e1⟩ := hv 1 (by decide)
    obtain ⟨u3, e3⟩ := hv 3 (by decide)
    obtain ⟨u4, e4⟩ := hv 4 (by decide)
    exact hend vs w' (hR.fin e1 e3 e4)
def tq30 : Array Oper := #[{ dst := some 197, op := Go.Op.move (Go.Operand.tmp 0), type := 75, pos := "build.go:133", after := #[], guard := none }, { dst := some 198, op := Go.Op.nilCheck (Go.Operand.tmp 197), type := 0, pos := "build.go:133", after := #[{ on := 0, ground := Go.Ground.data }], guard := none }, { dst := some 199, op := Go.Op.fieldAddr 78 (Go.Operand.tmp 198) 1, type := 0, pos := "build.go:133", after := #[{ on := 1, ground := Go.Ground.data }], guard := none }, { dst := some 200, op := Go.Op.load 29 (Go.Operand.tmp 199), type := 29, pos := "build.go:133", after := #[{ on := 2, ground := Go.Ground.data }], guard := none }, { dst := some 201, op := Go.Op.load 31 (Go.Operand.tmp 7), type := 31, pos := "build.go:133", after := #[], guard := none }, { dst := some 202, op := Go.Op.call { callee := Go.Callee.builtin Go.Builtin.len, args := #[Go.Operand.tmp 200], argTypes := #[29] }, type := 3, pos := "build.go:133", after := #[{ on := 3, ground := Go.Ground.data }], guard := none }, { dst := some 203, op := Go.Op.buildSlice 29 1 #[(0, Go.Operand.const (Go.Value.agg #[Go.Value.int Go.IntKind.i64 0, Go.Value.int Go.IntKind.i64 0, Go.Value.int Go.IntKind.i64 0, Go.Value.int Go.IntKind.u64 0, Go.Value.int Go.IntKind.i64 0, Go.Value.int Go.IntKind.i64 0, Go.Value.slice none 0 0]))], type := 29, pos := "build.go:133", after := #[], guard := none }, { dst := some 204, op := Go.Op.call { callee := Go.Callee.builtin Go.Builtin.append, args := #[Go.Operand.tmp 200, Go.Operand.tmp 203], argTypes := #[29, 29] }, type := 29, pos := "build.go:133", after := #[{ on := 3, ground := Go.Ground.data }, { on := 6, ground := Go.Ground.data }, { on := 0, ground := Go.Ground.phase }, { on := 1, ground := Go.Ground.phase }, { on := 2, ground := Go.Ground.phase }, { on := 3, ground := Go.Ground.phase }, { on := 4, ground := Go.Ground.phase }, { on := 5, ground := Go.Ground.phase }, { on := 6, ground := Go.Ground.phase }], guard := none }, { dst := some 205, op := Go.Op.indexAddr 29 (Go.Operand.tmp 204) (Go.Operand.tmp 202), type := 0, pos := "build.go:133", after := #[{ on := 7, ground := Go.Ground.data }, { on := 5, ground := Go.Ground.data }, { on := 0, ground := Go.Ground.phase }, { on := 1, ground := Go.Ground.phase }, { on := 2, ground := Go.Ground.phase }, { on := 3, ground := Go.Ground.phase }, { on := 4, ground := Go.Ground.phase }, { on := 5, ground := Go.Ground.phase }, { on := 6, ground := Go.Ground.phase }, { on := 7, ground := Go.Ground.phase }, { on := 12, ground := Go.Ground.gcOnly Go.Departure.appendInPlace }], guard := none }, { dst := none, op := Go.Op.store 31 (Go.Operand.tmp 205) (Go.Operand.tmp 201), type := 0, pos := "build.go:133", after := #[{ on := 8, ground := Go.Ground.data }, { on := 4, ground := Go.Ground.data }, { on := 7, ground := Go.Ground.chain }, { on := 0, ground := Go.Ground.phase }, { on := 1, ground := Go.Ground.phase }, { on := 2, ground := Go.Ground.phase }, { on := 3, ground := Go.Ground.phase }, { on := 4, ground := Go.Ground.phase }, { on := 5, ground := Go.Ground.phase }, { on := 6, ground := Go.Ground.phase }, { on := 7, ground := Go.Ground.phase }, { on := 12, ground := Go.Ground.gcOnly Go.Departure.appendInPlace }], guard := none }, { dst := some 206, op := Go.Op.nilCheck (Go.Operand.tmp 197), type := 0, pos := "build.go:133", after := #[{ on := 0, ground := Go.Ground.data }, { on := 0, ground := Go.Ground.phase }, { on := 1, ground := Go.Ground.phase }, { on := 2, ground := Go.Ground.phase }, { on := 3, ground := Go.Ground.phase }, { on := 4, ground := Go.Ground.phase }, { on := 5, ground := Go.Ground.phase }, { on := 6, ground := Go.Ground.phase }, { on := 7, ground := Go.Ground.phase }, { on := 8, ground := Go.Ground.textOnly Go.Departure.appendInPlace }, { on := 9, ground := Go.Ground.textOnly Go.Departure.appendInPlace }], guard := none }, { dst := some 207, op := Go.Op.fieldAddr 78 (Go.Operand.tmp 206) 1, type := 0, pos := "build.go:133", after := #[{ on := 10, ground := Go.Ground.data }, { on := 0, ground := Go.Ground.phase }, { on := 1, ground := Go.Ground.phase }, { on := 2, ground := Go.Ground.phase }, { on := 3, ground := Go.Ground.phase }, { on := 4, ground := Go.Ground.phase }, { on := 5, ground := Go.Ground.phase }, { on := 6, ground := Go.Ground.phase }, { on := 7, ground := Go.Ground.phase }, { on := 8, ground := Go.Ground.textOnly Go.Departure.appendInPlace }, { on := 9, ground := Go.Ground.textOnly Go.Departure.appendInPlace }], guard := none }, { dst := none, op := Go.Op.store 29 (Go.Operand.tmp 207) (Go.Operand.tmp 204), type := 0, pos := "build.go:133", after := #[{ on := 11, ground := Go.Ground.data }, { on := 7, ground := Go.Ground.data }, { on := 7, ground := Go.Ground.chain }, { on := 9, ground := Go.Ground.textOnly Go.Departure.appendInPlace }, { on := 0, ground := Go.Ground.phase }, { on := 1, ground := Go.Ground.phase }, { on := 2, ground := Go.Ground.phase }, { on := 3, ground := Go.Ground.phase }, { on := 4, ground := Go.Ground.phase }, { on := 5, ground := Go.Ground.phase }, { on := 6, ground := Go.Ground.phase }, { on := 7, ground := Go.Ground.phase }, { on := 8, ground := Go.Ground.textOnly Go.Departure.appendInPlace }, { on := 9, ground := Go.Ground.textOnly Go.Departure.appendInPlace }], guard := none }]
def tq30T (gb gO gE : Nat) (A Bf Cf D : Int) (va : Option Addr) (vc n : Nat) : List (Option Nat × (Value ⊕ Nat)) := [(some 197, .inl (.pointer (some ⟨gb, 0, none⟩))), (some 198, .inl (.pointer (some ⟨gb, 0, none⟩))), (some 199, .inl (.pointer (some ⟨gb, 1, none⟩))), (some 200, .inl (.slice va n vc)), (some 201, .inr 5), (some 202, .inl (.int .i64 ((n : Nat) : Int))), (some 203, .inr 0), (some 204, .inr 1), (some 205, .inr 2), (none, .inr 3), (some 206, .inl (.pointer (some ⟨gb, 0, none⟩))), (some 207, .inl (.pointer (some ⟨gb, 1, none⟩))), (none, .inr 4)]
theorem tq30_chk : chk tq30 tq30.size = true := by kernel_rfl
set_option maxRecDepth 4000 in
set_option maxHeartbeats 4000000 in
theorem tq30_c {Q : Exit → Act → World → Prop} {a0 : Act} {w : World} {B gb gO gE : Nat} {A Bf Cf D Kf : Int} {hd : Value → List Value} {P : Nat → Prop} {C : World → Value → List (NE) → Prop} {va : Option Addr} {vc : Nat} {l : List (NE)} (F : Foc neC 7 31 29 B gb 1 hd (fun w x => NEok P w x) C) (hz0 : a0.tmps.size = 500) (ar : Arr w.drew gb 78 (hd (.slice va l.length vc))) (hc : C w.drew (.slice va l.length vc) l) (hl : l.length ≤ 1000000)
    (h0 : a0.tmps[0]? = some (.pointer (some ⟨gb, 0, none⟩)))
    (h7 : a0.tmps[7]? = some (.pointer (some ⟨gE, 0, none⟩)))
    (x9 : NE) (harE : Arr w.drew gE 31 (neC x9)) (hgE : gE ≠ gb) (hgE2 : (Value.slice va l.length vc).ownBlock ≠ some gE) (hx : NEok P w.drew x9) (hxp : True)
    (hend : ∀ vs w', (∃ g c x, (fun _ => True) x ∧ Lat neC 31 gb w.drew hd (fun w x => NEok P w x) C (.slice va l.length vc) l g c x true w') → Q .normal (lay a0 (Lmx (tq30T gb gO gE A Bf Cf D va vc l.length) vs)) w') :
    (Code.region 30 tq30 true).wp Try.prog Q a0 w := by
  refine wp_region_mx (by rfl) (tq30T gb gO gE A Bf Cf D va vc l.length) [197, 198, 199, 200, 201, 202, 203, 204, 205, 206, 207] [none, none, none, none, some 5, none, some 0, some 1, some 2, some 3, none, none, some 4] [6, 7, 8, 9, 12, 4] rfl rfl rfl tq30_chk (by decide) (by decide) (by
    intro d hd
    rw [hz0]
    have : ∀ y ∈ [197, 198, 199, 200, 201, 202, 203, 204, 205, 206, 207], y < 500 := by decide
    exact this _ hd) (R2 neC 31 7 gb w.drew hd (fun w x => NEok P w x) (fun _ => True) C (.slice va l.length vc) l zE (fun _ => True)) (R2.start F ar hc) ?_ ?_
  · intro i d x hT listed vs a w' h
    match i, hT with
    | 0, hT =>
      obtain ⟨rfl, rfl⟩ := Prod.mk.inj (Option.some.inj (show some ((some 197 : Option Nat), (.inl (.pointer (some ⟨gb, 0, none⟩)) : Value ⊕ Nat)) = some (d, x) from hT))
      exact wpOp_of _ rfl rfl (v_move (.tmp 0) _ rfl (veval_of ((h.ot 0 (by decide)).trans h0)) ⟨rfl, rfl⟩)
    | 1, hT =>
      obtain ⟨rfl, rfl⟩ := Prod.mk.inj (Option.some.inj (show some ((some 198 : Option Nat), (.inl (.pointer (some ⟨gb, 0, none⟩)) : Value ⊕ Nat)) = some (d, x) from hT))
      exact wpOp_of _ rfl rfl (v_nil (.tmp 197) _ rfl (veval_of (h.val 0 197 _ rfl (by decide))) ⟨rfl, rfl⟩)
    | 2, hT =>
      obtain ⟨rfl, rfl⟩ := Prod.mk.inj (Option.some.inj (show some ((some 199 : Option Nat), (.inl (.pointer (some ⟨gb, 1, none⟩)) : Value ⊕ Nat)) = some (d, x) from hT))
      exact wpOp_of _ rfl rfl (v_f78 (.tmp 198) 1 _ 1 rfl (by decide) (veval_of (h.val 1 198 _ rfl (by decide))) ⟨rfl, rfl⟩)
    | 3, hT =>
      obtain ⟨rfl, rfl⟩ := Prod.mk.inj (Option.some.inj (show some ((some 200 : Option Nat), (.inl (.slice va l.length vc) : Value ⊕ Nat)) = some (d, x) from hT))
      have n1 := h.later 1 7 rfl 13 (by kernel_rfl)
      have q := (h.r.early n1).2.2.2.2
      exact wpOp_of _ rfl rfl (v_load29 (.tmp 199) _ _ _ rfl (veval_of (h.val 2 199 _ rfl (by decide))) ((q.ar.cell 1).trans (F.ge _)) ⟨rfl, rfl⟩)
    | 4, hT =>
      obtain ⟨rfl, rfl⟩ := Prod.mk.inj (Option.some.inj (show some ((some 201 : Option Nat), (.inr 5 : Value ⊕ Nat)) = some (d, x) from hT))
      have n1 := h.later 1 7 rfl 13 (by kernel_rfl)
      have q := (h.r.early n1).2.2.2.2
      have hab := q.fr.arr (fun z => z.elim hgE hgE2) harE
      have hok := F.okf hc ar hx q.fr (fun q a => a.elim (fun e => Or.inr (Or.inr e)) Or.inl)
      exact wpOp_of _ rfl rfl (v_load31 (.tmp 7) _ _ _ _ _ _ _ _ rfl (veval_of ((h.ot 7 (by decide)).trans h7)) (hab.cell 0) (hab.cell 1) (hab.cell 2) (hab.cell 3) (hab.cell 4) (hab.cell 5) (hab.cell 6) ⟨_, rfl, h.r.elem n1 x9 hok (hxp)⟩)
    | 5, hT =>
      obtain ⟨rfl, rfl⟩ := Prod.mk.inj (Option.some.inj (show some ((some 202 : Option Nat), (.inl (.int .i64 ((l.length : Nat) : Int)) : Value ⊕ Nat)) = some (d, x) from hT))
      exact wpOp_of _ rfl rfl (v_len29 200 _ _ _ rfl rfl (h.val 3 200 _ rfl (by decide)) ⟨rfl, rfl⟩)
    | 6, hT =>
      obtain ⟨rfl, rfl⟩ := Prod.mk.inj (Option.some.inj (show some ((some 203 : Option Nat), (.inr 0 : Value ⊕ Nat)) = some (d, x) from hT))
      have n1 := h.later 1 7 rfl 13 (by kernel_rfl)
      exact wpOp_of _ rfl rfl (v_bz29 rfl ⟨_, rfl, h.r.alloc F n1 (zE_ok P w')⟩)
    | 7, hT =>
      obtain ⟨rfl, rfl⟩ := Prod.mk.inj (Option.some.inj (show some ((some 204 : Option Nat), (.inr 1 : Value ⊕ Nat)) = some (d, x) from hT))
      have n1 := h.not 1 rfl
      obtain ⟨u0, e0⟩ := h.has 0 6 rfl 13 (by kernel_rfl)
      obtain ⟨u5, e5⟩ := h.has 5 4 rfl 13 (by kernel_rfl)
      obtain ⟨g', c', w2, hrun, hR⟩ := h.r.app F n1 e0 e5 hl
      exact wpOp_of _ rfl rfl (v_append (.tmp 200) (.tmp 203) 29 rfl _ _ _ _ (veval_of (h.val 3 200 _ rfl (by decide))) (veval_of (h.vale 6 203 0 rfl (by decide) e0)) hrun ⟨_, rfl, hR⟩)
    | 8, hT =>
      obtain ⟨rfl, rfl⟩ := Prod.mk.inj (Option.some.inj (show some ((some 205 : Option Nat), (.inr 2 : Value ⊕ Nat)) = some (d, x) from hT))
      obtain ⟨u1, e1⟩ := h.has 1 7 rfl 13 (by kernel_rfl)
      obtain ⟨g', c', rfl, hR⟩ := h.r.idx e1
      exact wpOp_of _ rfl rfl (v_idx29 (.tmp 204) (.tmp 202) _ _ _ _ rfl (veval_of (h.vale 7 204 1 rfl (by decide) e1)) (veval_of (h.val 5 202 _ rfl (by decide))) (Nat.lt_succ_self _) ⟨_, rfl, hR⟩)
    | 9, hT =>
      obtain ⟨rfl, rfl⟩ := Prod.mk.inj (Option.some.inj (show some ((none : Option Nat), (.inr 3 : Value ⊕ Nat)) = some (d, x) from hT))
      obtain ⟨u1, e1⟩ := h.has 1 7 rfl 13 (by kernel_rfl)
      obtain ⟨u2, e2⟩ := h.has 2 8 rfl 13 (by kernel_rfl)
      obtain ⟨u5, e5⟩ := h.has 5 4 rfl 13 (by kernel_rfl)
      obtain ⟨g', y, rfl, rfl, ho, hcs, hfz, hR⟩ := h.r.store F e1 e2 e5
      obtain ⟨ka, kc, hk, -, -⟩ := ho.2.1.form
      obtain ⟨yf, yk, yt, yr⟩ := y
      simp only at hk
      subst hk
      exact wpOp_of _ rfl rfl (v_store31 (.tmp 205) (.tmp 201) _ _ _ _ _ _ _ _ _ _ _ rfl rfl (veval_of (h.vale 8 205 2 rfl (by decide) e2)) (veval_of (h.vale 4 201 5 rfl (by decide) e5)) hcs hfz ⟨.bool true, rfl, hR _⟩)
    | 10, hT =>
      obtain ⟨rfl, rfl⟩ := Prod.mk.inj (Option.some.inj (show some ((some 206 : Option Nat), (.inl (.pointer (some ⟨gb, 0, none⟩)) : Value ⊕ Nat)) = some (d, x) from hT))
      exact wpOp_of _ rfl rfl (v_nil (.tmp 197) _ rfl (veval_of (h.val 0 197 _ rfl (by decide))) ⟨rfl, rfl⟩)
    | 11, hT =>
      obtain ⟨rfl, rfl⟩ := Prod.mk.inj (Option.some.inj (show some ((some 207 : Option Nat), (.inl (.pointer (some ⟨gb, 1, none⟩)) : Value ⊕ Nat)) = some (d, x) from hT))
      exact wpOp_of _ rfl rfl (v_f78 (.tmp 206) 1 _ 1 rfl (by decide) (veval_of (h.val 10 206 _ rfl (by decide))) ⟨rfl, rfl⟩)
    | 12, hT =>
      obtain ⟨rfl, rfl⟩ := Prod.mk.inj (Option.some.inj (show some ((none : Option Nat), (.inr 4 : Value ⊕ Nat)) = some (d, x) from hT))
      obtain ⟨u1, e1⟩ := h.has 1 7 rfl 13 (by kernel_rfl)
      obtain ⟨b', m', c', rfl, ⟨u', hu'⟩, hfz, hR⟩ := h.r.hdr F e1
      exact wpOp_of _ rfl rfl (v_store29 (.tmp 207) (.tmp 204) _ _ _ _ _ _ rfl rfl (veval_of (h.val 11 207 _ rfl (by decide))) (veval_of (h.vale 7 204 1 rfl (by decide) e1)) hu' hfz ⟨.bool true, rfl, hR _⟩)
    | i + 13, hT => simp [tq30T] at hT
  · intro vs w' hv hR
    obtain ⟨u1, e1⟩ := hv 1 (by decide)
    obtain ⟨u3, e3⟩ := hv 3 (by decide)
    obtain ⟨u4, e4⟩ := hv 4 (by decide)
    exact hend vs w' (hR.fin e1 e3 e4)
def tq35 : Array Oper := #[{ dst := some 221, op := Go.Op.move (Go.Operand.tmp 0), type := 75, pos := "build.go:139", after := #[], guard := none }, { dst := some 222, op := Go.Op.nilCheck (Go.Operand.tmp 221), type := 0, pos := "build.go:139", after := #[{ on := 0, ground := Go.Ground.data }], guard := none }, { dst := some 223, op := Go.Op.fieldAddr 78 (Go.Operand.tmp 222) 1, type := 0, pos := "build.go:139", after := #[{ on := 1, ground := Go.Ground.data }], guard := none }, { dst := some 224, op := Go.Op.load 29 (Go.Operand.tmp 223), type := 29, pos := "build.go:139", after := #[{ on := 2, ground := Go.Ground.data }], guard := none }, { dst := some 225, op := Go.Op.load 31 (Go.Operand.tmp 8), type := 31, pos := "build.go:139", after := #[], guard := none }, { dst := some 226, op := Go.Op.call { callee := Go.Callee.builtin Go.Builtin.len, args := #[Go.Operand.tmp 224], argTypes := #[29] }, type := 3, pos := "build.go:139", after := #[{ on := 3, ground := Go.Ground.data }], guard := none }, { dst := some 227, op := Go.Op.buildSlice 29 1 #[(0, Go.Operand.const (Go.Value.agg #[Go.Value.int Go.IntKind.i64 0, Go.Value.int Go.IntKind.i64 0, Go.Value.int Go.IntKind.i64 0, Go.Value.int Go.IntKind.u64 0, Go.Value.int Go.IntKind.i64 0, Go.Value.int Go.IntKind.i64 0, Go.Value.slice none 0 0]))], type := 29, pos := "build.go:139", after := #[], guard := none }, { dst := some 228, op := Go.Op.call { callee := Go.Callee.builtin Go.Builtin.append, args := #[Go.Operand.tmp 224, Go.Operand.tmp 227], argTypes := #[29, 29] }, type := 29, pos := "build.go:139", after := #[{ on := 3, ground := Go.Ground.data }, { on := 6, ground := Go.Ground.data }, { on := 0, ground := Go.Ground.phase }, { on := 1, ground := Go.Ground.phase }, { on := 2, ground := Go.Ground.phase }, { on := 3, ground := Go.Ground.phase }, { on := 4, ground := Go.Ground.phase }, { on := 5, ground := Go.Ground.phase }, { on := 6, ground := Go.Ground.phase }], guard := none }, { dst := some 229, op := Go.Op.indexAddr 29 (Go.Operand.tmp 228) (Go.Operand.tmp 226), type := 0, pos := "build.go:139", after := #[{ on := 7, ground := Go.Ground.data }, { on := 5, ground := Go.Ground.data }, { on := 0, ground := Go.Ground.phase }, { on := 1, ground := Go.Ground.phase }, { on := 2, ground := Go.Ground.phase }, { on := 3, ground := Go.Ground.phase }, { on := 4, ground := Go.Ground.phase }, { on := 5, ground := Go.Ground.phase }, { on := 6, ground := Go.Ground.phase }, { on := 7, ground := Go.Ground.phase }, { on := 12, ground := Go.Ground.gcOnly Go.Departure.appendInPlace }], guard := none }, { dst := none, op := Go.Op.store 31 (Go.Operand.tmp 229) (Go.Operand.tmp 225), type := 0, pos := "build.go:139", after := #[{ on := 8, ground := Go.Ground.data }, { on := 4, ground := Go.Ground.data }, { on := 7, ground := Go.Ground.chain }, { on := 0, ground := Go.Ground.phase }, { on := 1, ground := Go.Ground.phase }, { on := 2, ground := Go.Ground.phase }, { on := 3, ground := Go.Ground.phase }, { on := 4, ground := Go.Ground.phase }, { on := 5, ground := Go.Ground.phase }, { on := 6, ground := Go.Ground.phase }, { on := 7, ground := Go.Ground.phase }, { on := 12, ground := Go.Ground.gcOnly Go.Departure.appendInPlace }], guard := none }, { dst := some 230, op := Go.Op.nilCheck (Go.Operand.tmp 221), type := 0, pos := "build.go:139", after := #[{ on := 0, ground := Go.Ground.data }, { on := 0, ground := Go.Ground.phase }, { on := 1, ground := Go.Ground.phase }, { on := 2, ground := Go.Ground.phase }, { on := 3, ground := Go.Ground.phase }, { on := 4, ground := Go.Ground.phase }, { on := 5, ground := Go.Ground.phase }, { on := 6, ground := Go.Ground.phase }, { on := 7, ground := Go.Ground.phase }, { on := 8, ground := Go.Ground.textOnly Go.Departure.appendInPlace }, { on := 9, ground := Go.Ground.textOnly Go.Departure.appendInPlace }], guard := none }, { dst := some 231, op := Go.Op.fieldAddr 78 (Go.Operand.tmp 230) 1, type := 0, pos := "build.go:139", after := #[{ on := 10, ground := Go.Ground.data }, { on := 0, ground := Go.Ground.phase }, { on := 1, ground := Go.Ground.phase }, { on := 2, ground := Go.Ground.phase }, { on := 3, ground := Go.Ground.phase }, { on := 4, ground := Go.Ground.phase }, { on := 5, ground := Go.Ground.phase }, { on := 6, ground := Go.Ground.phase }, { on := 7, ground := Go.Ground.phase }, { on := 8, ground := Go.Ground.textOnly Go.Departure.appendInPlace }, { on := 9, ground := Go.Ground.textOnly Go.Departure.appendInPlace }], guard := none }, { dst := none, op := Go.Op.store 29 (Go.Operand.tmp 231) (Go.Operand.tmp 228), type := 0, pos := "build.go:139", after := #[{ on := 11, ground := Go.Ground.data }, { on := 7, ground := Go.Ground.data }, { on := 7, ground := Go.Ground.chain }, { on := 9, ground := Go.Ground.textOnly Go.Departure.appendInPlace }, { on := 0, ground := Go.Ground.phase }, { on := 1, ground := Go.Ground.phase }, { on := 2, ground := Go.Ground.phase }, { on := 3, ground := Go.Ground.phase }, { on := 4, ground := Go.Ground.phase }, { on := 5, ground := Go.Ground.phase }, { on := 6, ground := Go.Ground.phase }, { on := 7, ground := Go.Ground.phase }, { on := 8, ground := Go.Ground.textOnly Go.Departure.appendInPlace }, { on := 9, ground := Go.Ground.textOnly Go.Departure.appendInPlace }], guard := none }]
def tq35T (gb gO gE : Nat) (A Bf Cf D : Int) (va : Option Addr) (vc n : Nat) : List (Option Nat × (Value ⊕ Nat)) := [(some 221, .inl (.pointer (some ⟨gb, 0, none⟩))), (some 222, .inl (.pointer (some ⟨gb, 0, none⟩))), (some 223, .inl (.pointer (some ⟨gb, 1, none⟩))), (some 224, .inl (.slice va n vc)), (some 225, .inr 5), (some 226, .inl (.int .i64 ((n : Nat) : Int))), (some 227, .inr 0), (some 228, .inr 1), (some 229, .inr 2), (none, .inr 3), (some 230, .inl (.pointer (some ⟨gb, 0, none⟩))), (some 231, .inl (.pointer (some ⟨gb, 1, none⟩))), (none, .inr 4)]
theorem tq35_chk : chk tq35 tq35.size = true := by kernel_rfl
set_option maxRecDepth 4000 in
set_option maxHeartbeats 4000000 in
theorem tq35_c {Q : Exit → Act → World → Prop} {a0 : Act} {w : World} {B gb gO gE : Nat} {A Bf Cf D Kf : Int} {hd : Value → List Value} {P : Nat → Prop} {C : World → Value → List (NE) → Prop} {va : Option Addr} {vc : Nat} {l : List (NE)} (F : Foc neC 7 31 29 B gb 1 hd (fun w x => NEok P w x) C) (hz0 : a0.tmps.size = 500) (ar : Arr w.drew gb 78 (hd (.slice va l.length vc))) (hc : C w.drew (.slice va l.length vc) l) (hl : l.length ≤ 1000000)
    (h0 : a0.tmps[0]? = some (.pointer (some ⟨gb, 0, none⟩)))
    (h8 : a0.tmps[8]? = some (.pointer (some ⟨gE, 0, none⟩)))
    (x9 : NE) (harE : Arr w.drew gE 31 (neC x9)) (hgE : gE ≠ gb) (hgE2 : (Value.slice va l.length vc).ownBlock ≠ some gE) (hx : NEok P w.drew x9) (hxp : True)
    (hend : ∀ vs w', (∃ g c x, (fun _ => True) x ∧ Lat neC 31 gb w.drew hd (fun w x => NEok P w x) C (.slice va l.length vc) l g c x true w') → Q .normal (lay a0 (Lmx (tq35T gb gO gE A Bf Cf D va vc l.length) vs)) w') :
    (Code.region 35 tq35 true).wp Try.prog Q a0 w := by
  refine wp_region_mx (by rfl) (tq35T gb gO gE A Bf Cf D va vc l.length) [221, 222, 223, 224, 225, 226, 227, 228, 229, 230, 231] [none, none, none, none, some 5, none, some 0, some 1, some 2, some 3, none, none, some 4] [6, 7, 8, 9, 12, 4] rfl rfl rfl tq35_chk (by decide) (by decide) (by
    intro d hd
    rw [hz0]
    have : ∀ y ∈ [221, 222, 223, 224, 225, 226, 227, 228, 229, 230, 231], y < 500 := by decide
    exact this _ hd) (R2 neC 31 7 gb w.drew hd (fun w x => NEok P w x) (fun _ => True) C (.slice va l.length vc) l zE (fun _ => True)) (R2.start F ar hc) ?_ ?_
  · intro i d x hT listed vs a w' h
    match i, hT with
    | 0, hT =>
      obtain ⟨rfl, rfl⟩ := Prod.mk.inj (Option.some.inj (show some ((some 221 : Option Nat), (.inl (.pointer (some ⟨gb, 0, none⟩)) : Value ⊕ Nat)) = some (d, x) from hT))
      exact wpOp_of _ rfl rfl (v_move (.tmp 0) _ rfl (veval_of ((h.ot 0 (by decide)).trans h0)) ⟨rfl, rfl⟩)
    | 1, hT =>
      obtain ⟨rfl, rfl⟩ := Prod.mk.inj (Option.some.inj (show some ((some 222 : Option Nat), (.inl (.pointer (some ⟨gb, 0, none⟩)) : Value ⊕ Nat)) = some (d, x) from hT))
      exact wpOp_of _ rfl rfl (v_nil (.tmp 221) _ rfl (veval_of (h.val 0 221 _ rfl (by decide))) ⟨rfl, rfl⟩)
    | 2, hT =>
      obtain ⟨rfl, rfl⟩ := Prod.mk.inj (Option.some.inj (show some ((some 223 : Option Nat), (.inl (.pointer (some ⟨gb, 1, none⟩)) : Value ⊕ Nat)) = some (d, x) from hT))
      exact wpOp_of _ rfl rfl (v_f78 (.tmp 222) 1 _ 1 rfl (by decide) (veval_of (h.val 1 222 _ rfl (by decide))) ⟨rfl, rfl⟩)
    | 3, hT =>
      obtain ⟨rfl, rfl⟩ := Prod.mk.inj (Option.some.inj (show some ((some 224 : Option Nat), (.inl (.slice va l.length vc) : Value ⊕ Nat)) = some (d, x) from hT))
      have n1 := h.later 1 7 rfl 13 (by kernel_rfl)
      have q := (h.r.early n1).2.2.2.2
      exact wpOp_of _ rfl rfl (v_load29 (.tmp 223) _ _ _ rfl (veval_of (h.val 2 223 _ rfl (by decide))) ((q.ar.cell 1).trans (F.ge _)) ⟨rfl, rfl⟩)
    | 4, hT =>
      obtain ⟨rfl, rfl⟩ := Prod.mk.inj (Option.some.inj (show some ((some 225 : Option Nat), (.inr 5 : Value ⊕ Nat)) = some (d, x) from hT))
      have n1 := h.later 1 7 rfl 13 (by kernel_rfl)
      have q := (h.r.early n1).2.2.2.2
      have hab := q.fr.arr (fun z => z.elim hgE hgE2) harE
      have hok := F.okf hc ar hx q.fr (fun q a => a.elim (fun e => Or.inr (Or.inr e)) Or.inl)
      exact wpOp_of _ rfl rfl (v_load31 (.tmp 8) _ _ _ _ _ _ _ _ rfl (veval_of ((h.ot 8 (by decide)).trans h8)) (hab.cell 0) (hab.cell 1) (hab.cell 2) (hab.cell 3) (hab.cell 4) (hab.cell 5) (hab.cell 6) ⟨_, rfl, h.r.elem n1 x9 hok (hxp)⟩)
    | 5, hT =>
      obtain ⟨rfl, rfl⟩ := Prod.mk.inj (Option.some.inj (show some ((some 226 : Option Nat), (.inl (.int .i64 ((l.length : Nat) : Int)) : Value ⊕ Nat)) = some (d, x) from hT))
      exact wpOp_of _ rfl rfl (v_len29 224 _ _ _ rfl rfl (h.val 3 224 _ rfl (by decide)) ⟨rfl, rfl⟩)
    | 6, hT =>
      obtain ⟨rfl, rfl⟩ := Prod.mk.inj (Option.some.inj (show some ((some 227 : Option Nat), (.inr 0 : Value ⊕ Nat)) = some (d, x) from hT))
      have n1 := h.later 1 7 rfl 13 (by kernel_rfl)
      exact wpOp_of _ rfl rfl (v_bz29 rfl ⟨_, rfl, h.r.alloc F n1 (zE_ok P w')⟩)
    | 7, hT =>
      obtain ⟨rfl, rfl⟩ := Prod.mk.inj (Option.some.inj (show some ((some 228 : Option Nat), (.inr 1 : Value ⊕ Nat)) = some (d, x) from hT))
      have n1 := h.not 1 rfl
      obtain ⟨u0, e0⟩ := h.has 0 6 rfl 13 (by kernel_rfl)
      obtain ⟨u5, e5⟩ := h.has 5 4 rfl 13 (by kernel_rfl)
      obtain ⟨g', c', w2, hrun, hR⟩ := h.r.app F n1 e0 e5 hl
      exact wpOp_of _ rfl rfl (v_append (.tmp 224) (.tmp 227) 29 rfl _ _ _ _ (veval_of (h.val 3 224 _ rfl (by decide))) (veval_of (h.vale 6 227 0 rfl (by decide) e0)) hrun ⟨_, rfl, hR⟩)
    | 8, hT =>
      obtain ⟨rfl, rfl⟩ := Prod.mk.inj (Option.some.inj (show some ((some 229 : Option Nat), (.inr 2 : Value ⊕ Nat)) = some (d, x) from hT))
      obtain ⟨u1, e1⟩ := h.has 1 7 rfl 13 (by kernel_rfl)
      obtain ⟨g', c', rfl, hR⟩ := h.r.idx e1
      exact wpOp_of _ rfl rfl (v_idx29 (.tmp 228) (.tmp 226) _ _ _ _ rfl (veval_of (h.vale 7 228 1 rfl (by decide) e1)) (veval_of (h.val 5 226 _ rfl (by decide))) (Nat.lt_succ_self _) ⟨_, rfl, hR⟩)
    | 9, hT =>
      obtain ⟨rfl, rfl⟩ := Prod.mk.inj (Option.some.inj (show some ((none : Option Nat), (.inr 3 : Value ⊕ Nat)) = some (d, x) from hT))
      obtain ⟨u1, e1⟩ := h.has 1 7 rfl 13 (by kernel_rfl)
      obtain ⟨u2, e2⟩ := h.has 2 8 rfl 13 (by kernel_rfl)
      obtain ⟨u5, e5⟩ := h.has 5 4 rfl 13 (by kernel_rfl)
      obtain ⟨g', y, rfl, rfl, ho, hcs, hfz, hR⟩ := h.r.store F e1 e2 e5
      obtain ⟨ka, kc, hk, -, -⟩ := ho.2.1.form
      obtain ⟨yf, yk, yt, yr⟩ := y
      simp only at hk
      subst hk
      exact wpOp_of _ rfl rfl (v_store31 (.tmp 229) (.tmp 225) _ _ _ _ _ _ _ _ _ _ _ rfl rfl (veval_of (h.vale 8 229 2 rfl (by decide) e2)) (veval_of (h.vale 4 225 5 rfl (by decide) e5)) hcs hfz ⟨.bool true, rfl, hR _⟩)
    | 10, hT =>
      obtain ⟨rfl, rfl⟩ := Prod.mk.inj (Option.some.inj (show some ((some 230 : Option Nat), (.inl (.pointer (some ⟨gb, 0, none⟩)) : Value ⊕ Nat)) = some (d, x) from hT))
      exact wpOp_of _ rfl rfl (v_nil (.tmp 221) _ rfl (veval_of (h.val 0 221 _ rfl (by decide))) ⟨rfl, rfl⟩)
    | 11, hT =>
      obtain ⟨rfl, rfl⟩ := Prod.mk.inj (Option.some.inj (show some ((some 231 : Option Nat), (.inl (.pointer (some ⟨gb, 1, none⟩)) : Value ⊕ Nat)) = some (d, x) from hT))
      exact wpOp_of _ rfl rfl (v_f78 (.tmp 230) 1 _ 1 rfl (by decide) (veval_of (h.val 10 230 _ rfl (by decide))) ⟨rfl, rfl⟩)
    | 12, hT =>
      obtain ⟨rfl, rfl⟩ := Prod.mk.inj (Option.some.inj (show some ((none : Option Nat), (.inr 4 : Value ⊕ Nat)) = some (d, x) from hT))
      obtain ⟨u1, e1⟩ := h.has 1 7 rfl 13 (by kernel_rfl)
      obtain ⟨b', m', c', rfl, ⟨u', hu'⟩, hfz, hR⟩ := h.r.hdr F e1
      exact wpOp_of _ rfl rfl (v_store29 (.tmp 231) (.tmp 228) _ _ _ _ _ _ rfl rfl (veval_of (h.val 11 231 _ rfl (by decide))) (veval_of (h.vale 7 228 1 rfl (by decide) e1)) hu' hfz ⟨.bool true, rfl, hR _⟩)
    | i + 13, hT => simp [tq35T] at hT
  · intro vs w' hv hR
    obtain ⟨u1, e1⟩ := hv 1 (by decide)
    obtain ⟨u3, e3⟩ := hv 3 (by decide)
    obtain ⟨u4, e4⟩ := hv 4 (by decide)
    exact hend vs w' (hR.fin e1 e3 e4)
def tq50 : Array Oper := #[{ dst := some 338, op := Go.Op.move (Go.Operand.tmp 0), type := 75, pos := "build.go:158", after := #[], guard := none }, { dst := some 339, op := Go.Op.nilCheck (Go.Operand.tmp 338), type := 0, pos := "build.go:158", after := #[{ on := 0, ground := Go.Ground.data }], guard := none }, { dst := some 340, op := Go.Op.fieldAddr 78 (Go.Operand.tmp 339) 2, type := 0, pos := "build.go:158", after := #[{ on := 1, ground := Go.Ground.data }], guard := none }, { dst := some 341, op := Go.Op.load 25 (Go.Operand.tmp 340), type := 25, pos := "build.go:158", after := #[{ on := 2, ground := Go.Ground.data }], guard := none }, { dst := some 342, op := Go.Op.load 109 (Go.Operand.tmp 9), type := 109, pos := "build.go:158", after := #[], guard := none }, { dst := some 343, op := Go.Op.call { callee := Go.Callee.builtin Go.Builtin.len, args := #[Go.Operand.tmp 341], argTypes := #[25] }, type := 3, pos := "build.go:158", after := #[{ on := 3, ground := Go.Ground.data }], guard := none }, { dst := some 344, op := Go.Op.buildSlice 25 1 #[(0, Go.Operand.const (Go.Value.agg #[Go.Value.int Go.IntKind.i64 0, Go.Value.int Go.IntKind.i64 0, Go.Value.int Go.IntKind.i64 0, Go.Value.int Go.IntKind.i64 0, Go.Value.int Go.IntKind.i64 0, Go.Value.slice none 0 0, Go.Value.slice none 0 0, Go.Value.slice none 0 0]))], type := 25, pos := "build.go:158", after := #[], guard := none }, { dst := some 345, op := Go.Op.call { callee := Go.Callee.builtin Go.Builtin.append, args := #[Go.Operand.tmp 341, Go.Operand.tmp 344], argTypes := #[25, 25] }, type := 25, pos := "build.go:158", after := #[{ on := 3, ground := Go.Ground.data }, { on := 6, ground := Go.Ground.data }, { on := 0, ground := Go.Ground.phase }, { on := 1, ground := Go.Ground.phase }, { on := 2, ground := Go.Ground.phase }, { on := 3, ground := Go.Ground.phase }, { on := 4, ground := Go.Ground.phase }, { on := 5, ground := Go.Ground.phase }, { on := 6, ground := Go.Ground.phase }], guard := none }, { dst := some 346, op := Go.Op.indexAddr 25 (Go.Operand.tmp 345) (Go.Operand.tmp 343), type := 0, pos := "build.go:158", after := #[{ on := 7, ground := Go.Ground.data }, { on := 5, ground := Go.Ground.data }, { on := 0, ground := Go.Ground.phase }, { on := 1, ground := Go.Ground.phase }, { on := 2, ground := Go.Ground.phase }, { on := 3, ground := Go.Ground.phase }, { on := 4, ground := Go.Ground.phase }, { on := 5, ground := Go.Ground.phase }, { on := 6, ground := Go.Ground.phase }, { on := 7, ground := Go.Ground.phase }, { on := 12, ground := Go.Ground.gcOnly Go.Departure.appendInPlace }], guard := none }, { dst := none, op := Go.Op.store 109 (Go.Operand.tmp 346) (Go.Operand.tmp 342), type := 0, pos := "build.go:158", after := #[{ on := 8, ground := Go.Ground.data }, { on := 4, ground := Go.Ground.data }, { on := 7, ground := Go.Ground.chain }, { on := 0, ground := Go.Ground.phase }, { on := 1, ground := Go.Ground.phase }, { on := 2, ground := Go.Ground.phase }, { on := 3, ground := Go.Ground.phase }, { on := 4, ground := Go.Ground.phase }, { on := 5, ground := Go.Ground.phase }, { on := 6, ground := Go.Ground.phase }, { on := 7, ground := Go.Ground.phase }, { on := 12, ground := Go.Ground.gcOnly Go.Departure.appendInPlace }], guard := none }, { dst := some 347, op := Go.Op.nilCheck (Go.Operand.tmp 338), type := 0, pos := "build.go:158", after := #[{ on := 0, ground := Go.Ground.data }, { on := 0, ground := Go.Ground.phase }, { on := 1, ground := Go.Ground.phase }, { on := 2, ground := Go.Ground.phase }, { on := 3, ground := Go.Ground.phase }, { on := 4, ground := Go.Ground.phase }, { on := 5, ground := Go.Ground.phase }, { on := 6, ground := Go.Ground.phase }, { on := 7, ground := Go.Ground.phase }, { on := 8, ground := Go.Ground.textOnly Go.Departure.appendInPlace }, { on := 9, ground := Go.Ground.textOnly Go.Departure.appendInPlace }], guard := none }, { dst := some 348, op := Go.Op.fieldAddr 78 (Go.Operand.tmp 347) 2, type := 0, pos := "build.go:158", after := #[{ on := 10, ground := Go.Ground.data }, { on := 0, ground := Go.Ground.phase }, { on := 1, ground := Go.Ground.phase }, { on := 2, ground := Go.Ground.phase }, { on := 3, ground := Go.Ground.phase }, { on := 4, ground := Go.Ground.phase }, { on := 5, ground := Go.Ground.phase }, { on := 6, ground := Go.Ground.phase }, { on := 7, ground := Go.Ground.phase }, { on := 8, ground := Go.Ground.textOnly Go.Departure.appendInPlace }, { on := 9, ground := Go.Ground.textOnly Go.Departure.appendInPlace }], guard := none }, { dst := none, op := Go.Op.store 25 (Go.Operand.tmp 348) (Go.Operand.tmp 345), type := 0, pos := "build.go:158", after := #[{ on := 11, ground := Go.Ground.data }, { on := 7, ground := Go.Ground.data }, { on := 7, ground := Go.Ground.chain }, { on := 9, ground := Go.Ground.textOnly Go.Departure.appendInPlace }, { on := 0, ground := Go.Ground.phase }, { on := 1, ground := Go.Ground.phase }, { on := 2, ground := Go.Ground.phase }, { on := 3, ground := Go.Ground.phase }, { on := 4, ground := Go.Ground.phase }, { on := 5, ground := Go.Ground.phase }, { on := 6, ground := Go.Ground.phase }, { on := 7, ground := Go.Ground.phase }, { on := 8, ground := Go.Ground.textOnly Go.Departure.appendInPlace }, { on := 9, ground := Go.Ground.textOnly Go.Departure.appendInPlace }], guard := none }]
def tq50T (gb gO gE : Nat) (A Bf Cf D : Int) (va : Option Addr) (vc n : Nat) : List (Option Nat × (Value ⊕ Nat)) := [(some 338, .inl (.pointer (some ⟨gb, 0, none⟩))), (some 339, .inl (.pointer (some ⟨gb, 0, none⟩))), (some 340, .inl (.pointer (some ⟨gb, 2, none⟩))), (some 341, .inl (.slice va n vc)), (some 342, .inr 5), (some 343, .inl (.int .i64 ((n : Nat) : Int))), (some 344, .inr 0), (some 345, .inr 1), (some 346, .inr 2), (none, .inr 3), (some 347, .inl (.pointer (some ⟨gb, 0, none⟩))), (some 348, .inl (.pointer (some ⟨gb, 2, none⟩))), (none, .inr 4)]
theorem tq50_chk : chk tq50 tq50.size = true := by kernel_rfl
set_option maxRecDepth 4000 in
set_option maxHeartbeats 4000000 in
theorem tq50_c {Q : Exit → Act → World → Prop} {a0 : Act} {w : World} {B gb gO gE : Nat} {A Bf Cf D Kf : Int} {hd : Value → List Value} {P : Nat → Prop} {C : World → Value → List (NS) → Prop} {va : Option Addr} {vc : Nat} {l : List (NS)} (F : Foc nsC 8 109 25 B gb 2 hd (fun w x => NSok P w x) C) (hz0 : a0.tmps.size = 500) (ar : Arr w.drew gb 78 (hd (.slice va l.length vc))) (hc : C w.drew (.slice va l.length vc) l) (hl : l.length ≤ 1000000)
    (h0 : a0.tmps[0]? = some (.pointer (some ⟨gb, 0, none⟩)))
    (h9 : a0.tmps[9]? = some (.pointer (some ⟨gE, 0, none⟩)))
    (kx : Nat) (x9 : NS) (harE : Arr w.drew gE 109 (nsC x9)) (hgE : gE ≠ gb) (hgE2 : (Value.slice va l.length vc).ownBlock ≠ some gE) (hx : NSok P w.drew x9) (hxp : nsz x9 = kx)
    (hend : ∀ vs w', (∃ g c x, (fun x => nsz x = kx) x ∧ Lat nsC 109 gb w.drew hd (fun w x => NSok P w x) C (.slice va l.length vc) l g c x true w') → Q .normal (lay a0 (Lmx (tq50T gb gO gE A Bf Cf D va vc l.length) vs)) w') :
    (Code.region 50 tq50 true).wp Try.prog Q a0 w := by
  refine wp_region_mx (by rfl) (tq50T gb gO gE A Bf Cf D va vc l.length) [338, 339, 340, 341, 342, 343, 344, 345, 346, 347, 348] [none, none, none, none, some 5, none, some 0, some 1, some 2, some 3, none, none, some 4] [6, 7, 8, 9, 12, 4] rfl rfl rfl tq50_chk (by decide) (by decide) (by
    intro d hd
    rw [hz0]
    have : ∀ y ∈ [338, 339, 340, 341, 342, 343, 344, 345, 346, 347, 348], y < 500 := by decide
    exact this _ hd) (R2 nsC 109 8 gb w.drew hd (fun w x => NSok P w x) (fun x => nsz x = kx) C (.slice va l.length vc) l zS (fun _ => True)) (R2.start F ar hc) ?_ ?_
  · intro i d x hT listed vs a w' h
    match i, hT with
    | 0, hT =>
      obtain ⟨rfl, rfl⟩ := Prod.mk.inj (Option.some.inj (show some ((some 338 : Option Nat), (.inl (.pointer (some ⟨gb, 0, none⟩)) : Value ⊕ Nat)) = some (d, x) from hT))
      exact wpOp_of _ rfl rfl (v_move (.tmp 0) _ rfl (veval_of ((h.ot 0 (by decide)).trans h0)) ⟨rfl, rfl⟩)
    | 1, hT =>
      obtain ⟨rfl, rfl⟩ := Prod.mk.inj (Option.some.inj (show some ((some 339 : Option Nat), (.inl (.pointer (some ⟨gb, 0, none⟩)) : Value ⊕ Nat)) = some (d, x) from hT))
      exact wpOp_of _ rfl rfl (v_nil (.tmp 338) _ rfl (veval_of (h.val 0 338 _ rfl (by decide))) ⟨rfl, rfl⟩)
    | 2, hT =>
      obtain ⟨rfl, rfl⟩ := Prod.mk.inj (Option.some.inj (show some ((some 340 : Option Nat), (.inl (.pointer (some ⟨gb, 2, none⟩)) : Value ⊕ Nat)) = some (d, x) from hT))
      exact wpOp_of _ rfl rfl (v_f78 (.tmp 339) 2 _ 2 rfl (by decide) (veval_of (h.val 1 339 _ rfl (by decide))) ⟨rfl, rfl⟩)
    | 3, hT =>
      obtain ⟨rfl, rfl⟩ := Prod.mk.inj (Option.some.inj (show some ((some 341 : Option Nat), (.inl (.slice va l.length vc) : Value ⊕ Nat)) = some (d, x) from hT))
      have n1 := h.later 1 7 rfl 13 (by kernel_rfl)
      have q := (h.r.early n1).2.2.2.2
      exact wpOp_of _ rfl rfl (v_load25 (.tmp 340) _ _ _ rfl (veval_of (h.val 2 340 _ rfl (by decide))) ((q.ar.cell 2).trans (F.ge _)) ⟨rfl, rfl⟩)
    | 4, hT =>
      obtain ⟨rfl, rfl⟩ := Prod.mk.inj (Option.some.inj (show some ((some 342 : Option Nat), (.inr 5 : Value ⊕ Nat)) = some (d, x) from hT))
      have n1 := h.later 1 7 rfl 13 (by kernel_rfl)
      have q := (h.r.early n1).2.2.2.2
      have hab := q.fr.arr (fun z => z.elim hgE hgE2) harE
      have hok := F.okf hc ar hx q.fr (fun q a => a.elim (fun e => Or.inr (Or.inr e)) Or.inl)
      exact wpOp_of _ rfl rfl (v_load109 (.tmp 9) _ _ _ _ _ _ _ _ _ rfl (veval_of ((h.ot 9 (by decide)).trans h9)) (hab.cell 0) (hab.cell 1) (hab.cell 2) (hab.cell 3) (hab.cell 4) (hab.cell 5) (hab.cell 6) (hab.cell 7) ⟨_, rfl, h.r.elem n1 x9 hok (hxp)⟩)
    | 5, hT =>
      obtain ⟨rfl, rfl⟩ := Prod.mk.inj (Option.some.inj (show some ((some 343 : Option Nat), (.inl (.int .i64 ((l.length : Nat) : Int)) : Value ⊕ Nat)) = some (d, x) from hT))
      exact wpOp_of _ rfl rfl (v_len25 341 _ _ _ rfl rfl (h.val 3 341 _ rfl (by decide)) ⟨rfl, rfl⟩)
    | 6, hT =>
      obtain ⟨rfl, rfl⟩ := Prod.mk.inj (Option.some.inj (show some ((some 344 : Option Nat), (.inr 0 : Value ⊕ Nat)) = some (d, x) from hT))
      have n1 := h.later 1 7 rfl 13 (by kernel_rfl)
      exact wpOp_of _ rfl rfl (v_bz25 rfl ⟨_, rfl, h.r.alloc F n1 (zS_ok P w')⟩)
    | 7, hT =>
      obtain ⟨rfl, rfl⟩ := Prod.mk.inj (Option.some.inj (show some ((some 345 : Option Nat), (.inr 1 : Value ⊕ Nat)) = some (d, x) from hT))
      have n1 := h.not 1 rfl
      obtain ⟨u0, e0⟩ := h.has 0 6 rfl 13 (by kernel_rfl)
      obtain ⟨u5, e5⟩ := h.has 5 4 rfl 13 (by kernel_rfl)
      obtain ⟨g', c', w2, hrun, hR⟩ := h.r.app F n1 e0 e5 hl
      exact wpOp_of _ rfl rfl (v_append (.tmp 341) (.tmp 344) 25 rfl _ _ _ _ (veval_of (h.val 3 341 _ rfl (by decide))) (veval_of (h.vale 6 344 0 rfl (by decide) e0)) hrun ⟨_, rfl, hR⟩)
    | 8, hT =>
      obtain ⟨rfl, rfl⟩ := Prod.mk.inj (Option.some.inj (show some ((some 346 : Option Nat), (.inr 2 : Value ⊕ Nat)) = some (d, x) from hT))
      obtain ⟨u1, e1⟩ := h.has 1 7 rfl 13 (by kernel_rfl)
      obtain ⟨g', c', rfl, hR⟩ := h.r.idx e1
      exact wpOp_of _ rfl rfl (v_idx25 (.tmp 345) (.tmp 343) _ _ _ _ rfl (veval_of (h.vale 7 345 1 rfl (by decide) e1)) (veval_of (h.val 5 343 _ rfl (by decide))) (Nat.lt_succ_self _) ⟨_, rfl, hR⟩)
    | 9, hT =>
      obtain ⟨rfl, rfl⟩ := Prod.mk.inj (Option.some.inj (show some ((none : Option Nat), (.inr 3 : Value ⊕ Nat)) = some (d, x) from hT))
      obtain ⟨u1, e1⟩ := h.has 1 7 rfl 13 (by kernel_rfl)
      obtain ⟨u2, e2⟩ := h.has 2 8 rfl 13 (by kernel_rfl)
      obtain ⟨u5, e5⟩ := h.has 5 4 rfl 13 (by kernel_rfl)
      obtain ⟨g', y, rfl, rfl, ho, hcs, hfz, hR⟩ := h.r.store F e1 e2 e5
      obtain ⟨ka, kc, hk, -, -⟩ := ho.2.1.form
      obtain ⟨ka2, kc2, hk2, -, -⟩ := ho.2.2.2.1.form
      obtain ⟨ka3, kc3, hk3, -, -⟩ := ho.2.2.2.2.2.1.form
      obtain ⟨yf, yk, yk2, yk3, y4, y5, y6, y7, y8, y9⟩ := y
      simp only at hk hk2 hk3
      subst hk hk2 hk3
      exact wpOp_of _ rfl rfl (v_store109 (.tmp 346) (.tmp 342) _ _ _ _ _ _ _ _ _ _ _ _ _ _ _ _ rfl rfl (veval_of (h.vale 8 346 2 rfl (by decide) e2)) (veval_of (h.vale 4 342 5 rfl (by decide) e5)) hcs hfz ⟨.bool true, rfl, hR _⟩)
    | 10, hT =>
      obtain ⟨rfl, rfl⟩ := Prod.mk.inj (Option.some.inj (show some ((some 347 : Option Nat), (.inl (.pointer (some ⟨gb, 0, none⟩)) : Value ⊕ Nat)) = some (d, x) from hT))
      exact wpOp_of _ rfl rfl (v_nil (.tmp 338) _ rfl (veval_of (h.val 0 338 _ rfl (by decide))) ⟨rfl, rfl⟩)
    | 11, hT =>
      obtain ⟨rfl, rfl⟩ := Prod.mk.inj (Option.some.inj (show some ((some 348 : Option Nat), (.inl (.pointer (some ⟨gb, 2, none⟩)) : Value ⊕ Nat)) = some (d, x) from hT))
      exact wpOp_of _ rfl rfl (v_f78 (.tmp 347) 2 _ 2 rfl (by decide) (veval_of (h.val 10 347 _ rfl (by decide))) ⟨rfl, rfl⟩)
    | 12, hT =>
      obtain ⟨rfl, rfl⟩ := Prod.mk.inj (Option.some.inj (show some ((none : Option Nat), (.inr 4 : Value ⊕ Nat)) = some (d, x) from hT))
      obtain ⟨u1, e1⟩ := h.has 1 7 rfl 13 (by kernel_rfl)
      obtain ⟨b', m', c', rfl, ⟨u', hu'⟩, hfz, hR⟩ := h.r.hdr F e1
      exact wpOp_of _ rfl rfl (v_store25 (.tmp 348) (.tmp 345) _ _ _ _ _ _ rfl rfl (veval_of (h.val 11 348 _ rfl (by decide))) (veval_of (h.vale 7 345 1 rfl (by decide) e1)) hu' hfz ⟨.bool true, rfl, hR _⟩)
    | i + 13, hT => simp [tq50T] at hT
  · intro vs w' hv hR
    obtain ⟨u1, e1⟩ := hv 1 (by decide)
    obtain ⟨u3, e3⟩ := hv 3 (by decide)
    obtain ⟨u4, e4⟩ := hv 4 (by decide)
    exact hend vs w' (hR.fin e1 e3 e4)
def tq55 : Array Oper := #[{ dst := some 376, op := Go.Op.move (Go.Operand.tmp 0), type := 75, pos := "build.go:164", after := #[], guard := none }, { dst := some 377, op := Go.Op.nilCheck (Go.Operand.tmp 376), type := 0, pos := "build.go:164", after := #[{ on := 0, ground := Go.Ground.data }], guard := none }, { dst := some 378, op := Go.Op.fieldAddr 78 (Go.Operand.tmp 377) 2, type := 0, pos := "build.go:164", after := #[{ on := 1, ground := Go.Ground.data }], guard := none }, { dst := some 379, op := Go.Op.load 25 (Go.Operand.tmp 378), type := 25, pos := "build.go:164", after := #[{ on := 2, ground := Go.Ground.data }], guard := none }, { dst := some 380, op := Go.Op.load 109 (Go.Operand.tmp 10), type := 109, pos := "build.go:164", after := #[], guard := none }, { dst := some 381, op := Go.Op.call { callee := Go.Callee.builtin Go.Builtin.len, args := #[Go.Operand.tmp 379], argTypes := #[25] }, type := 3, pos := "build.go:164", after := #[{ on := 3, ground := Go.Ground.data }], guard := none }, { dst := some 382, op := Go.Op.buildSlice 25 1 #[(0, Go.Operand.const (Go.Value.agg #[Go.Value.int Go.IntKind.i64 0, Go.Value.int Go.IntKind.i64 0, Go.Value.int Go.IntKind.i64 0, Go.Value.int Go.IntKind.i64 0, Go.Value.int Go.IntKind.i64 0, Go.Value.slice none 0 0, Go.Value.slice none 0 0, Go.Value.slice none 0 0]))], type := 25, pos := "build.go:164", after := #[], guard := none }, { dst := some 383, op := Go.Op.call { callee := Go.Callee.builtin Go.Builtin.append, args := #[Go.Operand.tmp 379, Go.Operand.tmp 382], argTypes := #[25, 25] }, type := 25, pos := "build.go:164", after := #[{ on := 3, ground := Go.Ground.data }, { on := 6, ground := Go.Ground.data }, { on := 0, ground := Go.Ground.phase }, { on := 1, ground := Go.Ground.phase }, { on := 2, ground := Go.Ground.phase }, { on := 3, ground := Go.Ground.phase }, { on := 4, ground := Go.Ground.phase }, { on := 5, ground := Go.Ground.phase }, { on := 6, ground := Go.Ground.phase }], guard := none }, { dst := some 384, op := Go.Op.indexAddr 25 (Go.Operand.tmp 383) (Go.Operand.tmp 381), type := 0, pos := "build.go:164", after := #[{ on := 7, ground := Go.Ground.data }, { on := 5, ground := Go.Ground.data }, { on := 0, ground := Go.Ground.phase }, { on := 1, ground := Go.Ground.phase }, { on := 2, ground := Go.Ground.phase }, { on := 3, ground := Go.Ground.phase }, { on := 4, ground := Go.Ground.phase }, { on := 5, ground := Go.Ground.phase }, { on := 6, ground := Go.Ground.phase }, { on := 7, ground := Go.Ground.phase }, { on := 12, ground := Go.Ground.gcOnly Go.Departure.appendInPlace }], guard := none }, { dst := none, op := Go.Op.store 109 (Go.Operand.tmp 384) (Go.Operand.tmp 380), type := 0, pos := "build.go:164", after := #[{ on := 8, ground := Go.Ground.data }, { on := 4, ground := Go.Ground.data }, { on := 7, ground := Go.Ground.chain }, { on := 0, ground := Go.Ground.phase }, { on := 1, ground := Go.Ground.phase }, { on := 2, ground := Go.Ground.phase }, { on := 3, ground := Go.Ground.phase }, { on := 4, ground := Go.Ground.phase }, { on := 5, ground := Go.Ground.phase }, { on := 6, ground := Go.Ground.phase }, { on := 7, ground := Go.Ground.phase }, { on := 12, ground := Go.Ground.gcOnly Go.Departure.appendInPlace }], guard := none }, { dst := some 385, op := Go.Op.nilCheck (Go.Operand.tmp 376), type := 0, pos := "build.go:164", after := #[{ on := 0, ground := Go.Ground.data }, { on := 0, ground := Go.Ground.phase }, { on := 1, ground := Go.Ground.phase }, { on := 2, ground := Go.Ground.phase }, { on := 3, ground := Go.Ground.phase }, { on := 4, ground := Go.Ground.phase }, { on := 5, ground := Go.Ground.phase }, { on := 6, ground := Go.Ground.phase }, { on := 7, ground := Go.Ground.phase }, { on := 8, ground := Go.Ground.textOnly Go.Departure.appendInPlace }, { on := 9, ground := Go.Ground.textOnly Go.Departure.appendInPlace }], guard := none }, { dst := some 386, op := Go.Op.fieldAddr 78 (Go.Operand.tmp 385) 2, type := 0, pos := "build.go:164", after := #[{ on := 10, ground := Go.Ground.data }, { on := 0, ground := Go.Ground.phase }, { on := 1, ground := Go.Ground.phase }, { on := 2, ground := Go.Ground.phase }, { on := 3, ground := Go.Ground.phase }, { on := 4, ground := Go.Ground.phase }, { on := 5, ground := Go.Ground.phase }, { on := 6, ground := Go.Ground.phase }, { on := 7, ground := Go.Ground.phase }, { on := 8, ground := Go.Ground.textOnly Go.Departure.appendInPlace }, { on := 9, ground := Go.Ground.textOnly Go.Departure.appendInPlace }], guard := none }, { dst := none, op := Go.Op.store 25 (Go.Operand.tmp 386) (Go.Operand.tmp 383), type := 0, pos := "build.go:164", after := #[{ on := 11, ground := Go.Ground.data }, { on := 7, ground := Go.Ground.data }, { on := 7, ground := Go.Ground.chain }, { on := 9, ground := Go.Ground.textOnly Go.Departure.appendInPlace }, { on := 0, ground := Go.Ground.phase }, { on := 1, ground := Go.Ground.phase }, { on := 2, ground := Go.Ground.phase }, { on := 3, ground := Go.Ground.phase }, { on := 4, ground := Go.Ground.phase }, { on := 5, ground := Go.Ground.phase }, { on := 6, ground := Go.Ground.phase }, { on := 7, ground := Go.Ground.phase }, { on := 8, ground := Go.Ground.textOnly Go.Departure.appendInPlace }, { on := 9, ground := Go.Ground.textOnly Go.Departure.appendInPlace }], guard := none }]
def tq55T (gb gO gE : Nat) (A Bf Cf D : Int) (va : Option Addr) (vc n : Nat) : List (Option Nat × (Value ⊕ Nat)) := [(some 376, .inl (.pointer (some ⟨gb, 0, none⟩))), (some 377, .inl (.pointer (some ⟨gb, 0, none⟩))), (some 378, .inl (.pointer (some ⟨gb, 2, none⟩))), (some 379, .inl (.slice va n vc)), (some 380, .inr 5), (some 381, .inl (.int .i64 ((n : Nat) : Int))), (some 382, .inr 0), (some 383, .inr 1), (some 384, .inr 2), (none, .inr 3), (some 385, .inl (.pointer (some ⟨gb, 0, none⟩))), (some 386, .inl (.pointer (some ⟨gb, 2, none⟩))), (none, .inr 4)]
theorem tq55_chk : chk tq55 tq55.size = true := by kernel_rfl
set_option maxRecDepth 4000 in
set_option maxHeartbeats 4000000 in
theorem tq55_c {Q : Exit → Act → World → Prop} {a0 : Act} {w : World} {B gb gO gE : Nat} {A Bf Cf D Kf : Int} {hd : Value → List Value} {P : Nat → Prop} {C : World → Value → List (NS) → Prop} {va : Option Addr} {vc : Nat} {l : List (NS)} (F : Foc nsC 8 109 25 B gb 2 hd (fun w x => NSok P w x) C) (hz0 : a0.tmps.size = 500) (ar : Arr w.drew gb 78 (hd (.slice va l.length vc))) (hc : C w.drew (.slice va l.length vc) l) (hl : l.length ≤ 1000000)
    (h0 : a0.tmps[0]? = some (.pointer (some ⟨gb, 0, none⟩)))
    (h10 : a0.tmps[10]? = some (.pointer (some ⟨gE, 0, none⟩)))
    (kx : Nat) (x9 : NS) (harE : Arr w.drew gE 109 (nsC x9)) (hgE : gE ≠ gb) (hgE2 : (Value.slice va l.length vc).ownBlock ≠ some gE) (hx : NSok P w.drew x9) (hxp : nsz x9 = kx)
    (hend : ∀ vs w', (∃ g c x, (fun x => nsz x = kx) x ∧ Lat nsC 109 gb w.drew hd (fun w x => NSok P w x) C (.slice va l.length vc) l g c x true w') → Q .normal (lay a0 (Lmx (tq55T gb gO gE A Bf Cf D va vc l.length) vs)) w') :
    (Code.region 55 tq55 true).wp Try.prog Q a0 w := by
  refine wp_region_mx (by rfl) (tq55T gb gO gE A Bf Cf D va vc l.length) [376, 377, 378, 379, 380, 381, 382, 383, 384, 385, 386] [none, none, none, none, some 5, none, some 0, some 1, some 2, some 3, none, none, some 4] [6, 7, 8, 9, 12, 4] rfl rfl rfl tq55_chk (by decide) (by decide) (by
    intro d hd
    rw [hz0]
    have : ∀ y ∈ [376, 377, 378, 379, 380, 381, 382, 383, 384, 385, 386], y < 500 := by decide
    exact this _ hd) (R2 nsC 109 8 gb w.drew hd (fun w x => NSok P w x) (fun x => nsz x = kx) C (.slice va l.length vc) l zS (fun _ => True)) (R2.start F ar hc) ?_ ?_
  · intro i d x hT listed vs a w' h
    match i, hT with
    | 0, hT =>
      obtain ⟨rfl, rfl⟩ := Prod.mk.inj (Option.some.inj (show some ((some 376 : Option Nat), (.inl (.pointer (some ⟨gb, 0, none⟩)) : Value ⊕ Nat)) = some (d, x) from hT))
      exact wpOp_of _ rfl rfl (v_move (.tmp 0) _ rfl (veval_of ((h.ot 0 (by decide)).trans h0)) ⟨rfl, rfl⟩)
    | 1, hT =>
      obtain ⟨rfl, rfl⟩ := Prod.mk.inj (Option.some.inj (show some ((some 377 : Option Nat), (.inl (.pointer (some ⟨gb, 0, none⟩)) : Value ⊕ Nat)) = some (d, x) from hT))
      exact wpOp_of _ rfl rfl (v_nil (.tmp 376) _ rfl (veval_of (h.val 0 376 _ rfl (by decide))) ⟨rfl, rfl⟩)
    | 2, hT =>
      obtain ⟨rfl, rfl⟩ := Prod.mk.inj (Option.some.inj (show some ((some 378 : Option Nat), (.inl (.pointer (some ⟨gb, 2, none⟩)) : Value ⊕ Nat)) = some (d, x) from hT))
      exact wpOp_of _ rfl rfl (v_f78 (.tmp 377) 2 _ 2 rfl (by decide) (veval_of (h.val 1 377 _ rfl (by decide))) ⟨rfl, rfl⟩)
    | 3, hT =>
      obtain ⟨rfl, rfl⟩ := Prod.mk.inj (Option.some.inj (show some ((some 379 : Option Nat), (.inl (.slice va l.length vc) : Value ⊕ Nat)) = some (d, x) from hT))
      have n1 := h.later 1 7 rfl 13 (by kernel_rfl)
      have q := (h.r.early n1).2.2.2.2
      exact wpOp_of _ rfl rfl (v_load25 (.tmp 378) _ _ _ rfl (veval_of (h.val 2 378 _ rfl (by decide))) ((q.ar.cell 2).trans (F.ge _)) ⟨rfl, rfl⟩)
    | 4, hT =>
      obtain ⟨rfl, rfl⟩ := Prod.mk.inj (Option.some.inj (show some ((some 380 : Option Nat), (.inr 5 : Value ⊕ Nat)) = some (d, x) from hT))
      have n1 := h.later 1 7 rfl 13 (by kernel_rfl)
      have q := (h.r.early n1).2.2.2.2
      have hab := q.fr.arr (fun z => z.elim hgE hgE2) harE
      have hok := F.okf hc ar hx q.fr (fun q a => a.elim (fun e => Or.inr (Or.inr e)) Or.inl)
      exact wpOp_of _ rfl rfl (v_load109 (.tmp 10) _ _ _ _ _ _ _ _ _ rfl (veval_of ((h.ot 10 (by decide)).trans h10)) (hab.cell 0) (hab.cell 1) (hab.cell 2) (hab.cell 3) (hab.cell 4) (hab.cell 5) (hab.cell 6) (hab.cell 7) ⟨_, rfl, h.r.elem n1 x9 hok (hxp)⟩)
    | 5, hT =>
      obtain ⟨rfl, rfl⟩ := Prod.mk.inj (Option.some.inj (show some ((some 381 : Option Nat), (.inl (.int .i64 ((l.length : Nat) : Int)) : Value ⊕ Nat)) = some (d, x) from hT))
      exact wpOp_of _ rfl rfl (v_len25 379 _ _ _ rfl rfl (h.val 3 379 _ rfl (by decide)) ⟨rfl, rfl⟩)
    | 6, hT =>
      obtain ⟨rfl, rfl⟩ := Prod.mk.inj (Option.some.inj (show some ((some 382 : Option Nat), (.inr 0 : Value ⊕ Nat)) = some (d, x) from hT))
      have n1 := h.later 1 7 rfl 13 (by kernel_rfl)
      exact wpOp_of _ rfl rfl (v_bz25 rfl ⟨_, rfl, h.r.alloc F n1 (zS_ok P w')⟩)
    | 7, hT =>
      obtain ⟨rfl, rfl⟩ := Prod.mk.inj (Option.some.inj (show some ((some 383 : Option Nat), (.inr 1 : Value ⊕ Nat)) = some (d, x) from hT))
      have n1 := h.not 1 rfl
      obtain ⟨u0, e0⟩ := h.has 0 6 rfl 13 (by kernel_rfl)
      obtain ⟨u5, e5⟩ := h.has 5 4 rfl 13 (by kernel_rfl)
      obtain ⟨g', c', w2, hrun, hR⟩ := h.r.app F n1 e0 e5 hl
      exact wpOp_of _ rfl rfl (v_append (.tmp 379) (.tmp 382) 25 rfl _ _ _ _ (veval_of (h.val 3 379 _ rfl (by decide))) (veval_of (h.vale 6 382 0 rfl (by decide) e0)) hrun ⟨_, rfl, hR⟩)
    | 8, hT =>
      obtain ⟨rfl, rfl⟩ := Prod.mk.inj (Option.some.inj (show some ((some 384 : Option Nat), (.inr 2 : Value ⊕ Nat)) = some (d, x) from hT))
      obtain ⟨u1, e1⟩ := h.has 1 7 rfl 13 (by kernel_rfl)
      obtain ⟨g', c', rfl, hR⟩ := h.r.idx e1
      exact wpOp_of _ rfl rfl (v_idx25 (.tmp 383) (.tmp 381) _ _ _ _ rfl (veval_of (h.vale 7 383 1 rfl (by decide) e1)) (veval_of (h.val 5 381 _ rfl (by decide))) (Nat.lt_succ_self _) ⟨_, rfl, hR⟩)
    | 9, hT =>
      obtain ⟨rfl, rfl⟩ := Prod.mk.inj (Option.some.inj (show some ((none : Option Nat), (.inr 3 : Value ⊕ Nat)) = some (d, x) from hT))
      obtain ⟨u1, e1⟩ := h.has 1 7 rfl 13 (by kernel_rfl)
      obtain ⟨u2, e2⟩ := h.has 2 8 rfl 13 (by kernel_rfl)
      obtain ⟨u5, e5⟩ := h.has 5 4 rfl 13 (by kernel_rfl)
      obtain ⟨g', y, rfl, rfl, ho, hcs, hfz, hR⟩ := h.r.store F e1 e2 e5
      obtain ⟨ka, kc, hk, -, -⟩ := ho.2.1.form
      obtain ⟨ka2, kc2, hk2, -, -⟩ := ho.2.2.2.1.form
      obtain ⟨ka3, kc3, hk3, -, -⟩ := ho.2.2.2.2.2.1.form
      obtain ⟨yf, yk, yk2, yk3, y4, y5, y6, y7, y8, y9⟩ := y
      simp only at hk hk2 hk3
      subst hk hk2 hk3
      exact wpOp_of _ rfl rfl (v_store109 (.tmp 384) (.tmp 380) _ _ _ _ _ _ _ _ _ _ _ _ _ _ _ _ rfl rfl (veval_of (h.vale 8 384 2 rfl (by decide) e2)) (veval_of (h.vale 4 380 5 rfl (by decide) e5)) hcs hfz ⟨.bool true, rfl, hR _⟩)
    | 10, hT =>
      obtain ⟨rfl, rfl⟩ := Prod.mk.inj (Option.some.inj (show some ((some 385 : Option Nat), (.inl (.pointer (some ⟨gb, 0, none⟩)) : Value ⊕ Nat)) = some (d, x) from hT))
      exact wpOp_of _ rfl rfl (v_nil (.tmp 376) _ rfl (veval_of (h.val 0 376 _ rfl (by decide))) ⟨rfl, rfl⟩)
    | 11, hT =>
      obtain ⟨rfl, rfl⟩ := Prod.mk.inj (Option.some.inj (show some ((some 386 : Option Nat), (.inl (.pointer (some ⟨gb, 2, none⟩)) : Value ⊕ Nat)) = some (d, x) from hT))
      exact wpOp_of _ rfl rfl (v_f78 (.tmp 385) 2 _ 2 rfl (by decide) (veval_of (h.val 10 385 _ rfl (by decide))) ⟨rfl, rfl⟩)
    | 12, hT =>
      obtain ⟨rfl, rfl⟩ := Prod.mk.inj (Option.some.inj (show some ((none : Option Nat), (.inr 4 : Value ⊕ Nat)) = some (d, x) from hT))
      obtain ⟨u1, e1⟩ := h.has 1 7 rfl 13 (by kernel_rfl)
      obtain ⟨b', m', c', rfl, ⟨u', hu'⟩, hfz, hR⟩ := h.r.hdr F e1
      exact wpOp_of _ rfl rfl (v_store25 (.tmp 386) (.tmp 383) _ _ _ _ _ _ rfl rfl (veval_of (h.val 11 386 _ rfl (by decide))) (veval_of (h.vale 7 383 1 rfl (by decide) e1)) hu' hfz ⟨.bool true, rfl, hR _⟩)
    | i + 13, hT => simp [tq55T] at hT
  · intro vs w' hv hR
    obtain ⟨u1, e1⟩ := hv 1 (by decide)
    obtain ⟨u3, e3⟩ := hv 3 (by decide)
    obtain ⟨u4, e4⟩ := hv 4 (by decide)
    exact hend vs w' (hR.fin e1 e3 e4)
def tq5 : Array Oper := #[{ dst := some 25, op := Go.Op.move (Go.Operand.tmp 0), type := 75, pos := "build.go:102", after := #[], guard := none }, { dst := some 26, op := Go.Op.move (Go.Operand.tmp 0), type := 75, pos := "build.go:102", after := #[], guard := none }, { dst := some 27, op := Go.Op.nilCheck (Go.Operand.tmp 26), type := 0, pos := "build.go:102", after := #[{ on := 1, ground := Go.Ground.data }], guard := none }, { dst := some 28, op := Go.Op.fieldAddr 78 (Go.Operand.tmp 27) 0, type := 0, pos := "build.go:102", after := #[{ on := 2, ground := Go.Ground.data }], guard := none }, { dst := some 29, op := Go.Op.load 24 (Go.Operand.tmp 28), type := 24, pos := "build.go:102", after := #[{ on := 3, ground := Go.Ground.data }], guard := none }, { dst := some 30, op := Go.Op.fieldAddr 81 (Go.Operand.tmp 3) 1, type := 0, pos := "build.go:102", after := #[], guard := none }, { dst := some 31, op := Go.Op.load 3 (Go.Operand.tmp 30), type := 3, pos := "build.go:102", after := #[{ on := 5, ground := Go.Ground.data }], guard := none }, { dst := some 32, op := Go.Op.fieldAddr 81 (Go.Operand.tmp 3) 2, type := 0, pos := "build.go:102", after := #[], guard := none }, { dst := some 33, op := Go.Op.load 3 (Go.Operand.tmp 32), type := 3, pos := "build.go:102", after := #[{ on := 7, ground := Go.Ground.data }], guard := none }, { dst := some 34, op := Go.Op.fieldAddr 81 (Go.Operand.tmp 3) 4, type := 0, pos := "build.go:102", after := #[], guard := none }, { dst := some 35, op := Go.Op.load 3 (Go.Operand.tmp 34), type := 3, pos := "build.go:102", after := #[{ on := 9, ground := Go.Ground.data }], guard := none }, { dst := some 36, op := Go.Op.build 70 #[(0, Go.Operand.tmp 31), (1, Go.Operand.const (Go.Value.bool true)), (3, Go.Operand.tmp 33), (4, Go.Operand.tmp 35)], type := 70, pos := "build.go:102", after := #[{ on := 6, ground := Go.Ground.data }, { on := 8, ground := Go.Ground.data }, { on := 10, ground := Go.Ground.data }], guard := none }, { dst := some 37, op := Go.Op.buildSlice 24 1 #[(0, Go.Operand.tmp 36)], type := 24, pos := "build.go:102", after := #[{ on := 11, ground := Go.Ground.data }], guard := none }, { dst := some 38, op := Go.Op.call { callee := Go.Callee.builtin Go.Builtin.append, args := #[Go.Operand.tmp 29, Go.Operand.tmp 37], argTypes := #[24, 24] }, type := 24, pos := "build.go:102", after := #[{ on := 4, ground := Go.Ground.data }, { on := 12, ground := Go.Ground.data }], guard := none }, { dst := some 39, op := Go.Op.nilCheck (Go.Operand.tmp 25), type := 0, pos := "build.go:102", after := #[{ on := 0, ground := Go.Ground.data }, { on := 0, ground := Go.Ground.phase }, { on := 1, ground := Go.Ground.phase }, { on := 2, ground := Go.Ground.phase }, { on := 3, ground := Go.Ground.phase }, { on := 4, ground := Go.Ground.phase }, { on := 5, ground := Go.Ground.phase }, { on := 6, ground := Go.Ground.phase }, { on := 7, ground := Go.Ground.phase }, { on := 8, ground := Go.Ground.phase }, { on := 9, ground := Go.Ground.phase }, { on := 10, ground := Go.Ground.phase }, { on := 11, ground := Go.Ground.phase }, { on := 12, ground := Go.Ground.phase }, { on := 13, ground := Go.Ground.phase }], guard := none }, { dst := some 40, op := Go.Op.fieldAddr 78 (Go.Operand.tmp 39) 0, type := 0, pos := "build.go:102", after := #[{ on := 14, ground := Go.Ground.data }, { on := 0, ground := Go.Ground.phase }, { on := 1, ground := Go.Ground.phase }, { on := 2, ground := Go.Ground.phase }, { on := 3, ground := Go.Ground.phase }, { on := 4, ground := Go.Ground.phase }, { on := 5, ground := Go.Ground.phase }, { on := 6, ground := Go.Ground.phase }, { on := 7, ground := Go.Ground.phase }, { on := 8, ground := Go.Ground.phase }, { on := 9, ground := Go.Ground.phase }, { on := 10, ground := Go.Ground.phase }, { on := 11, ground := Go.Ground.phase }, { on := 12, ground := Go.Ground.phase }, { on := 13, ground := Go.Ground.phase }], guard := none }, { dst := none, op := Go.Op.store 24 (Go.Operand.tmp 40) (Go.Operand.tmp 38), type := 0, pos := "build.go:102", after := #[{ on := 15, ground := Go.Ground.data }, { on := 13, ground := Go.Ground.data }, { on := 13, ground := Go.Ground.chain }, { on := 0, ground := Go.Ground.phase }, { on := 1, ground := Go.Ground.phase }, { on := 2, ground := Go.Ground.phase }, { on := 3, ground := Go.Ground.phase }, { on := 4, ground := Go.Ground.phase }, { on := 5, ground := Go.Ground.phase }, { on := 6, ground := Go.Ground.phase }, { on := 7, ground := Go.Ground.phase }, { on := 8, ground := Go.Ground.phase }, { on := 9, ground := Go.Ground.phase }, { on := 10, ground := Go.Ground.phase }, { on := 11, ground := Go.Ground.phase }, { on := 12, ground := Go.Ground.phase }, { on := 13, ground := Go.Ground.phase }], guard := none }]
def tq5T (gb gO gE : Nat) (A Bf Cf D : Int) (va : Option Addr) (vc n : Nat) : List (Option Nat × (Value ⊕ Nat)) := [(some 25, .inl (.pointer (some ⟨gb, 0, none⟩))), (some 26, .inl (.pointer (some ⟨gb, 0, none⟩))), (some 27, .inl (.pointer (some ⟨gb, 0, none⟩))), (some 28, .inl (.pointer (some ⟨gb, 0, none⟩))), (some 29, .inl (.slice va n vc)), (some 30, .inl (.pointer (some ⟨gO, 1, none⟩))), (some 31, .inl (.int .i64 A)), (some 32, .inl (.pointer (some ⟨gO, 2, none⟩))), (some 33, .inl (.int .i64 Bf)), (some 34, .inl (.pointer (some ⟨gO, 4, none⟩))), (some 35, .inl (.int .i64 D)), (some 36, .inr 3), (some 37, .inr 0), (some 38, .inr 1), (some 39, .inl (.pointer (some ⟨gb, 0, none⟩))), (some 40, .inl (.pointer (some ⟨gb, 0, none⟩))), (none, .inr 2)]
theorem tq5_chk : chk tq5 tq5.size = true := by kernel_rfl
set_option maxRecDepth 4000 in
set_option maxHeartbeats 4000000 in
theorem tq5_c {Q : Exit → Act → World → Prop} {a0 : Act} {w : World} {B gb gO gE : Nat} {A Bf Cf D Kf : Int} {hd : Value → List Value} {P : Nat → Prop} {C : World → Value → List (Cel) → Prop} {va : Option Addr} {vc : Nat} {l : List (Cel)} (F : Foc celC 5 70 24 B gb 0 hd (fun _ c => CelR c) C) (hz0 : a0.tmps.size = 500) (ar : Arr w.drew gb 78 (hd (.slice va l.length vc))) (hc : C w.drew (.slice va l.length vc) l) (hl : l.length ≤ 1000000)
    (h0 : a0.tmps[0]? = some (.pointer (some ⟨gb, 0, none⟩)))
    (h3 : a0.tmps[3]? = some (.pointer (some ⟨gO, 0, none⟩)))
    (harO : Arr w.drew gO 81 [.int .i64 Kf, .int .i64 A, .int .i64 Bf, .int .i64 Cf, .int .i64 D]) (hgO : gO ≠ gb) (hgO2 : (Value.slice va l.length vc).ownBlock ≠ some gO)
    (hA : I64 A) (hB : I64 Bf) (hD : I64 D)
    (hend : ∀ vs w', (∃ g c x, (fun _ => True) x ∧ Lat celC 70 gb w.drew hd (fun _ c => CelR c) C (.slice va l.length vc) l g c x true w') → Q .normal (lay a0 (Lmx (tq5T gb gO gE A Bf Cf D va vc l.length) vs)) w') :
    (Code.region 5 tq5 true).wp Try.prog Q a0 w := by
  refine wp_region_mx (by rfl) (tq5T gb gO gE A Bf Cf D va vc l.length) [25, 26, 27, 28, 29, 30, 31, 32, 33, 34, 35, 36, 37, 38, 39, 40] [none, none, none, none, none, none, none, none, none, none, none, some 3, some 0, some 1, none, none, some 2] [12, 13, 16, 11] rfl rfl rfl tq5_chk (by decide) (by decide) (by
    intro d hd
    rw [hz0]
    have : ∀ y ∈ [25, 26, 27, 28, 29, 30, 31, 32, 33, 34, 35, 36, 37, 38, 39, 40], y < 500 := by decide
    exact this _ hd) (R1 celC 70 gb w.drew hd (fun _ c => CelR c) (fun _ => True) C (.slice va l.length vc) l (fun _ => True)) (R1.start F ar hc) ?_ ?_
  · intro i d x hT listed vs a w' h
    match i, hT with
    | 0, hT =>
      obtain ⟨rfl, rfl⟩ := Prod.mk.inj (Option.some.inj (show some ((some 25 : Option Nat), (.inl (.pointer (some ⟨gb, 0, none⟩)) : Value ⊕ Nat)) = some (d, x) from hT))
      exact wpOp_of _ rfl rfl (v_move (.tmp 0) _ rfl (veval_of ((h.ot 0 (by decide)).trans h0)) ⟨rfl, rfl⟩)
    | 1, hT =>
      obtain ⟨rfl, rfl⟩ := Prod.mk.inj (Option.some.inj (show some ((some 26 : Option Nat), (.inl (.pointer (some ⟨gb, 0, none⟩)) : Value ⊕ Nat)) = some (d, x) from hT))
      exact wpOp_of _ rfl rfl (v_move (.tmp 0) _ rfl (veval_of ((h.ot 0 (by decide)).trans h0)) ⟨rfl, rfl⟩)
    | 2, hT =>
      obtain ⟨rfl, rfl⟩ := Prod.mk.inj (Option.some.inj (show some ((some 27 : Option Nat), (.inl (.pointer (some ⟨gb, 0, none⟩)) : Value ⊕ Nat)) = some (d, x) from hT))
      exact wpOp_of _ rfl rfl (v_nil (.tmp 26) _ rfl (veval_of (h.val 1 26 _ rfl (by decide))) ⟨rfl, rfl⟩)
    | 3, hT =>
      obtain ⟨rfl, rfl⟩ := Prod.mk.inj (Option.some.inj (show some ((some 28 : Option Nat), (.inl (.pointer (some ⟨gb, 0, none⟩)) : Value ⊕ Nat)) = some (d, x) from hT))
      exact wpOp_of _ rfl rfl (v_f78 (.tmp 27) 0 _ 0 rfl (by decide) (veval_of (h.val 2 27 _ rfl (by decide))) ⟨rfl, rfl⟩)
    | 4, hT =>
      obtain ⟨rfl, rfl⟩ := Prod.mk.inj (Option.some.inj (show some ((some 29 : Option Nat), (.inl (.slice va l.length vc) : Value ⊕ Nat)) = some (d, x) from hT))
      have n1 := h.later 1 13 rfl 17 (by kernel_rfl)
      have q := (h.r.early n1).2.2
      exact wpOp_of _ rfl rfl (v_load24 (.tmp 28) _ _ _ rfl (veval_of (h.val 3 28 _ rfl (by decide))) ((q.ar.cell 0).trans (F.ge _)) ⟨rfl, rfl⟩)
    | 5, hT =>
      obtain ⟨rfl, rfl⟩ := Prod.mk.inj (Option.some.inj (show some ((some 30 : Option Nat), (.inl (.pointer (some ⟨gO, 1, none⟩)) : Value ⊕ Nat)) = some (d, x) from hT))
      exact wpOp_of _ rfl rfl (v_f81 (.tmp 3) 1 _ 1 rfl (by decide) (veval_of ((h.ot 3 (by decide)).trans h3)) ⟨rfl, rfl⟩)
    | 6, hT =>
      obtain ⟨rfl, rfl⟩ := Prod.mk.inj (Option.some.inj (show some ((some 31 : Option Nat), (.inl (.int .i64 A) : Value ⊕ Nat)) = some (d, x) from hT))
      have n1 := h.later 1 13 rfl 17 (by kernel_rfl)
      have q := (h.r.early n1).2.2
      have hq : w'.cell? ⟨gO, 1, none⟩ = some (.int .i64 A) := (q.fr.arr (fun z => z.elim hgO hgO2) harO).cell 1
      exact wpOp_of _ rfl rfl (v_load3 (.tmp 30) _ _ _ rfl (veval_of (h.val 5 30 _ rfl (by decide))) hq ⟨rfl, rfl⟩)
    | 7, hT =>
      obtain ⟨rfl, rfl⟩ := Prod.mk.inj (Option.some.inj (show some ((some 32 : Option Nat), (.inl (.pointer (some ⟨gO, 2, none⟩)) : Value ⊕ Nat)) = some (d, x) from hT))
      exact wpOp_of _ rfl rfl (v_f81 (.tmp 3) 2 _ 2 rfl (by decide) (veval_of ((h.ot 3 (by decide)).trans h3)) ⟨rfl, rfl⟩)
    | 8, hT =>
      obtain ⟨rfl, rfl⟩ := Prod.mk.inj (Option.some.inj (show some ((some 33 : Option Nat), (.inl (.int .i64 Bf) : Value ⊕ Nat)) = some (d, x) from hT))
      have n1 := h.later 1 13 rfl 17 (by kernel_rfl)
      have q := (h.r.early n1).2.2
      have hq : w'.cell? ⟨gO, 2, none⟩ = some (.int .i64 Bf) := (q.fr.arr (fun z => z.elim hgO hgO2) harO).cell 2
      exact wpOp_of _ rfl rfl (v_load3 (.tmp 32) _ _ _ rfl (veval_of (h.val 7 32 _ rfl (by decide))) hq ⟨rfl, rfl⟩)
    | 9, hT =>
      obtain ⟨rfl, rfl⟩ := Prod.mk.inj (Option.some.inj (show some ((some 34 : Option Nat), (.inl (.pointer (some ⟨gO, 4, none⟩)) : Value ⊕ Nat)) = some (d, x) from hT))
      exact wpOp_of _ rfl rfl (v_f81 (.tmp 3) 4 _ 4 rfl (by decide) (veval_of ((h.ot 3 (by decide)).trans h3)) ⟨rfl, rfl⟩)
    | 10, hT =>
      obtain ⟨rfl, rfl⟩ := Prod.mk.inj (Option.some.inj (show some ((some 35 : Option Nat), (.inl (.int .i64 D) : Value ⊕ Nat)) = some (d, x) from hT))
      have n1 := h.later 1 13 rfl 17 (by kernel_rfl)
      have q := (h.r.early n1).2.2
      have hq : w'.cell? ⟨gO, 4, none⟩ = some (.int .i64 D) := (q.fr.arr (fun z => z.elim hgO hgO2) harO).cell 4
      exact wpOp_of _ rfl rfl (v_load3 (.tmp 34) _ _ _ rfl (veval_of (h.val 9 34 _ rfl (by decide))) hq ⟨rfl, rfl⟩)
    | 11, hT =>
      obtain ⟨rfl, rfl⟩ := Prod.mk.inj (Option.some.inj (show some ((some 36 : Option Nat), (.inr 3 : Value ⊕ Nat)) = some (d, x) from hT))
      have n1 := h.later 1 13 rfl 17 (by kernel_rfl)
      exact wpOp_of _ rfl rfl (v_b5 31 _ 33 _ 35 _ rfl (h.val 6 31 _ rfl (by decide)) (h.val 8 33 _ rfl (by decide)) (h.val 10 35 _ rfl (by decide)) ⟨_, rfl, h.r.elem n1 ((⟨A, true, 0, Bf, D⟩ : Cel)) (⟨hA, by simp, hB, hD⟩) (trivial)⟩)
    | 12, hT =>
      obtain ⟨rfl, rfl⟩ := Prod.mk.inj (Option.some.inj (show some ((some 37 : Option Nat), (.inr 0 : Value ⊕ Nat)) = some (d, x) from hT))
      have n1 := h.later 1 13 rfl 17 (by kernel_rfl)
      obtain ⟨u3, e3⟩ := h.has 3 11 rfl 17 (by kernel_rfl)
      obtain ⟨y, rfl, hR⟩ := h.r.alloc F n1 e3
      exact wpOp_of _ rfl rfl (v_bs24 36 _ _ _ _ _ rfl (h.vale 11 36 3 rfl (by decide) e3) ⟨_, rfl, hR⟩)
    | 13, hT =>
      obtain ⟨rfl, rfl⟩ := Prod.mk.inj (Option.some.inj (show some ((some 38 : Option Nat), (.inr 1 : Value ⊕ Nat)) = some (d, x) from hT))
      have n1 := h.not 1 rfl
      obtain ⟨u0, e0⟩ := h.has 0 12 rfl 17 (by kernel_rfl)
      obtain ⟨g', c', w2, hrun, hR⟩ := h.r.app F n1 e0 hl
      exact wpOp_of _ rfl rfl (v_append (.tmp 29) (.tmp 37) 24 rfl _ _ _ _ (veval_of (h.val 4 29 _ rfl (by decide))) (veval_of (h.vale 12 37 0 rfl (by decide) e0)) hrun ⟨_, rfl, hR⟩)
    | 14, hT =>
      obtain ⟨rfl, rfl⟩ := Prod.mk.inj (Option.some.inj (show some ((some 39 : Option Nat), (.inl (.pointer (some ⟨gb, 0, none⟩)) : Value ⊕ Nat)) = some (d, x) from hT))
      exact wpOp_of _ rfl rfl (v_nil (.tmp 25) _ rfl (veval_of (h.val 0 25 _ rfl (by decide))) ⟨rfl, rfl⟩)
    | 15, hT =>
      obtain ⟨rfl, rfl⟩ := Prod.mk.inj (Option.some.inj (show some ((some 40 : Option Nat), (.inl (.pointer (some ⟨gb, 0, none⟩)) : Value ⊕ Nat)) = some (d, x) from hT))
      exact wpOp_of _ rfl rfl (v_f78 (.tmp 39) 0 _ 0 rfl (by decide) (veval_of (h.val 14 39 _ rfl (by decide))) ⟨rfl, rfl⟩)
    | 16, hT =>
      obtain ⟨rfl, rfl⟩ := Prod.mk.inj (Option.some.inj (show some ((none : Option Nat), (.inr 2 : Value ⊕ Nat)) = some (d, x) from hT))
      obtain ⟨u1, e1⟩ := h.has 1 13 rfl 17 (by kernel_rfl)
      obtain ⟨b', m', c', rfl, ⟨u', hu'⟩, hfz, hR⟩ := h.r.hdr F e1
      exact wpOp_of _ rfl rfl (v_store24 (.tmp 40) (.tmp 38) _ _ _ _ _ _ rfl rfl (veval_of (h.val 15 40 _ rfl (by decide))) (veval_of (h.vale 13 38 1 rfl (by decide) e1)) hu' hfz ⟨.bool true, rfl, hR _⟩)
    | i + 17, hT => simp [tq5T] at hT
  · intro vs w' hv hR
    obtain ⟨u1, e1⟩ := hv 1 (by decide)
    obtain ⟨u4, e4⟩ := hv 2 (by decide)
    exact hend vs w' (hR.fin e1 e4)
def tq6 : Array Oper := #[{ dst := some 41, op := Go.Op.move (Go.Operand.tmp 0), type := 75, pos := "build.go:104", after := #[], guard := none }, { dst := some 42, op := Go.Op.move (Go.Operand.tmp 0), type := 75, pos := "build.go:104", after := #[], guard := none }, { dst := some 43, op := Go.Op.nilCheck (Go.Operand.tmp 42), type := 0, pos := "build.go:104", after := #[{ on := 1, ground := Go.Ground.data }], guard := none }, { dst := some 44, op := Go.Op.fieldAddr 78 (Go.Operand.tmp 43) 0, type := 0, pos := "build.go:104", after := #[{ on := 2, ground := Go.Ground.data }], guard := none }, { dst := some 45, op := Go.Op.load 24 (Go.Operand.tmp 44), type := 24, pos := "build.go:104", after := #[{ on := 3, ground := Go.Ground.data }], guard := none }, { dst := some 46, op := Go.Op.fieldAddr 81 (Go.Operand.tmp 3) 1, type := 0, pos := "build.go:104", after := #[], guard := none }, { dst := some 47, op := Go.Op.load 3 (Go.Operand.tmp 46), type := 3, pos := "build.go:104", after := #[{ on := 5, ground := Go.Ground.data }], guard := none }, { dst := some 48, op := Go.Op.fieldAddr 81 (Go.Operand.tmp 3) 2, type := 0, pos := "build.go:104", after := #[], guard := none }, { dst := some 49, op := Go.Op.load 3 (Go.Operand.tmp 48), type := 3, pos := "build.go:104", after := #[{ on := 7, ground := Go.Ground.data }], guard := none }, { dst := some 50, op := Go.Op.fieldAddr 81 (Go.Operand.tmp 3) 1, type := 0, pos := "build.go:104", after := #[], guard := none }, { dst := some 51, op := Go.Op.load 3 (Go.Operand.tmp 50), type := 3, pos := "build.go:104", after := #[{ on := 9, ground := Go.Ground.data }], guard := none }, { dst := some 52, op := Go.Op.call { callee := Go.Callee.value (Go.Operand.func 49), args := #[Go.Operand.tmp 49, Go.Operand.tmp 51], argTypes := #[3, 3] }, type := 28, pos := "build.go:104", after := #[{ on := 8, ground := Go.Ground.data }, { on := 10, ground := Go.Ground.data }], guard := none }, { dst := some 53, op := Go.Op.build 70 #[(0, Go.Operand.tmp 47), (2, Go.Operand.tmp 52)], type := 70, pos := "build.go:104", after := #[{ on := 6, ground := Go.Ground.data }, { on := 11, ground := Go.Ground.data }], guard := none }, { dst := some 54, op := Go.Op.buildSlice 24 1 #[(0, Go.Operand.tmp 53)], type := 24, pos := "build.go:104", after := #[{ on := 12, ground := Go.Ground.data }], guard := none }, { dst := some 55, op := Go.Op.call { callee := Go.Callee.builtin Go.Builtin.append, args := #[Go.Operand.tmp 45, Go.Operand.tmp 54], argTypes := #[24, 24] }, type := 24, pos := "build.go:104", after := #[{ on := 4, ground := Go.Ground.data }, { on := 13, ground := Go.Ground.data }, { on := 11, ground := Go.Ground.chain }], guard := none }, { dst := some 56, op := Go.Op.nilCheck (Go.Operand.tmp 41), type := 0, pos := "build.go:104", after := #[{ on := 0, ground := Go.Ground.data }, { on := 0, ground := Go.Ground.phase }, { on := 1, ground := Go.Ground.phase }, { on := 2, ground := Go.Ground.phase }, { on := 3, ground := Go.Ground.phase }, { on := 4, ground := Go.Ground.phase }, { on := 5, ground := Go.Ground.phase }, { on := 6, ground := Go.Ground.phase }, { on := 7, ground := Go.Ground.phase }, { on := 8, ground := Go.Ground.phase }, { on := 9, ground := Go.Ground.phase }, { on := 10, ground := Go.Ground.phase }, { on := 11, ground := Go.Ground.phase }, { on := 12, ground := Go.Ground.phase }, { on := 13, ground := Go.Ground.phase }, { on := 14, ground := Go.Ground.phase }], guard := none }, { dst := some 57, op := Go.Op.fieldAddr 78 (Go.Operand.tmp 56) 0, type := 0, pos := "build.go:104", after := #[{ on := 15, ground := Go.Ground.data }, { on := 0, ground := Go.Ground.phase }, { on := 1, ground := Go.Ground.phase }, { on := 2, ground := Go.Ground.phase }, { on := 3, ground := Go.Ground.phase }, { on := 4, ground := Go.Ground.phase }, { on := 5, ground := Go.Ground.phase }, { on := 6, ground := Go.Ground.phase }, { on := 7, ground := Go.Ground.phase }, { on := 8, ground := Go.Ground.phase }, { on := 9, ground := Go.Ground.phase }, { on := 10, ground := Go.Ground.phase }, { on := 11, ground := Go.Ground.phase }, { on := 12, ground := Go.Ground.phase }, { on := 13, ground := Go.Ground.phase }, { on := 14, ground := Go.Ground.phase }], guard := none }, { dst := none, op := Go.Op.store 24 (Go.Operand.tmp 57) (Go.Operand.tmp 55), type := 0, pos := "build.go:104", after := #[{ on := 16, ground := Go.Ground.data }, { on := 14, ground := Go.Ground.data }, { on := 14, ground := Go.Ground.chain }, { on := 0, ground := Go.Ground.phase }, { on := 1, ground := Go.Ground.phase }, { on := 2, ground := Go.Ground.phase }, { on := 3, ground := Go.Ground.phase }, { on := 4, ground := Go.Ground.phase }, { on := 5, ground := Go.Ground.phase }, { on := 6, ground := Go.Ground.phase }, { on := 7, ground := Go.Ground.phase }, { on := 8, ground := Go.Ground.phase }, { on := 9, ground := Go.Ground.phase }, { on := 10, ground := Go.Ground.phase }, { on := 11, ground := Go.Ground.phase }, { on := 12, ground := Go.Ground.phase }, { on := 13, ground := Go.Ground.phase }, { on := 14, ground := Go.Ground.phase }], guard := none }]
def tq6T (gb gO gE : Nat) (A Bf Cf D : Int) (va : Option Addr) (vc n : Nat) : List (Option Nat × (Value ⊕ Nat)) := [(some 41, .inl (.pointer (some ⟨gb, 0, none⟩))), (some 42, .inl (.pointer (some ⟨gb, 0, none⟩))), (some 43, .inl (.pointer (some ⟨gb, 0, none⟩))), (some 44, .inl (.pointer (some ⟨gb, 0, none⟩))), (some 45, .inl (.slice va n vc)), (some 46, .inl (.pointer (some ⟨gO, 1, none⟩))), (some 47, .inl (.int .i64 A)), (some 48, .inl (.pointer (some ⟨gO, 2, none⟩))), (some 49, .inl (.int .i64 Bf)), (some 50, .inl (.pointer (some ⟨gO, 1, none⟩))), (some 51, .inl (.int .i64 A)), (some 52, .inr 4), (some 53, .inr 3), (some 54, .inr 0), (some 55, .inr 1), (some 56, .inl (.pointer (some ⟨gb, 0, none⟩))), (some 57, .inl (.pointer (some ⟨gb, 0, none⟩))), (none, .inr 2)]
theorem tq6_chk : chk tq6 tq6.size = true := by kernel_rfl
set_option maxRecDepth 4000 in
set_option maxHeartbeats 4000000 in
theorem tq6_c {Q : Exit → Act → World → Prop} {a0 : Act} {w : World} {B gb gO gE : Nat} {A Bf Cf D Kf : Int} {hd : Value → List Value} {P : Nat → Prop} {C : World → Value → List (Cel) → Prop} {va : Option Addr} {vc : Nat} {l : List (Cel)} (F : Foc celC 5 70 24 B gb 0 hd (fun _ c => CelR c) C) (hz0 : a0.tmps.size = 500) (ar : Arr w.drew gb 78 (hd (.slice va l.length vc))) (hc : C w.drew (.slice va l.length vc) l) (hl : l.length ≤ 1000000)
    (h0 : a0.tmps[0]? = some (.pointer (some ⟨gb, 0, none⟩)))
    (h3 : a0.tmps[3]? = some (.pointer (some ⟨gO, 0, none⟩)))
    (harO : Arr w.drew gO 81 [.int .i64 Kf, .int .i64 A, .int .i64 Bf, .int .i64 Cf, .int .i64 D]) (hgO : gO ≠ gb) (hgO2 : (Value.slice va l.length vc).ownBlock ≠ some gO)
    (hA : I64 A)
    (hend : ∀ vs w', (∃ g c x, (fun _ => True) x ∧ Lat celC 70 gb w.drew hd (fun _ c => CelR c) C (.slice va l.length vc) l g c x true w') → Q .normal (lay a0 (Lmx (tq6T gb gO gE A Bf Cf D va vc l.length) vs)) w') :
    (Code.region 6 tq6 true).wp Try.prog Q a0 w := by
  refine wp_region_mx (by rfl) (tq6T gb gO gE A Bf Cf D va vc l.length) [41, 42, 43, 44, 45, 46, 47, 48, 49, 50, 51, 52, 53, 54, 55, 56, 57] [none, none, none, none, none, none, none, none, none, none, none, some 4, some 3, some 0, some 1, none, none, some 2] [13, 14, 17, 12, 11] rfl rfl rfl tq6_chk (by decide) (by decide) (by
    intro d hd
    rw [hz0]
    have : ∀ y ∈ [41, 42, 43, 44, 45, 46, 47, 48, 49, 50, 51, 52, 53, 54, 55, 56, 57], y < 500 := by decide
    exact this _ hd) (R1 celC 70 gb w.drew hd (fun _ c => CelR c) (fun _ => True) C (.slice va l.length vc) l (fun u => ∃ k : Nat, u = .int .u64 (k : Int) ∧ k < 2 ^ 64)) (R1.start F ar hc) ?_ ?_
  · intro i d x hT listed vs a w' h
    match i, hT with
    | 0, hT =>
      obtain ⟨rfl, rfl⟩ := Prod.mk.inj (Option.some.inj (show some ((some 41 : Option Nat), (.inl (.pointer (some ⟨gb, 0, none⟩)) : Value ⊕ Nat)) = some (d, x) from hT))
      exact wpOp_of _ rfl rfl (v_move (.tmp 0) _ rfl (veval_of ((h.ot 0 (by decide)).trans h0)) ⟨rfl, rfl⟩)
    | 1, hT =>
      obtain ⟨rfl, rfl⟩ := Prod.mk.inj (Option.some.inj (show some ((some 42 : Option Nat), (.inl (.pointer (some ⟨gb, 0, none⟩)) : Value ⊕ Nat)) = some (d, x) from hT))
      exact wpOp_of _ rfl rfl (v_move (.tmp 0) _ rfl (veval_of ((h.ot 0 (by decide)).trans h0)) ⟨rfl, rfl⟩)
    | 2, hT =>
      obtain ⟨rfl, rfl⟩ := Prod.mk.inj (Option.some.inj (show some ((some 43 : Option Nat), (.inl (.pointer (some ⟨gb, 0, none⟩)) : Value ⊕ Nat)) = some (d, x) from hT))
      exact wpOp_of _ rfl rfl (v_nil (.tmp 42) _ rfl (veval_of (h.val 1 42 _ rfl (by decide))) ⟨rfl, rfl⟩)
    | 3, hT =>
      obtain ⟨rfl, rfl⟩ := Prod.mk.inj (Option.some.inj (show some ((some 44 : Option Nat), (.inl (.pointer (some ⟨gb, 0, none⟩)) : Value ⊕ Nat)) = some (d, x) from hT))
      exact wpOp_of _ rfl rfl (v_f78 (.tmp 43) 0 _ 0 rfl (by decide) (veval_of (h.val 2 43 _ rfl (by decide))) ⟨rfl, rfl⟩)
    | 4, hT =>
      obtain ⟨rfl, rfl⟩ := Prod.mk.inj (Option.some.inj (show some ((some 45 : Option Nat), (.inl (.slice va l.length vc) : Value ⊕ Nat)) = some (d, x) from hT))
      have n1 := h.later 1 14 rfl 18 (by kernel_rfl)
      have q := (h.r.early n1).2.2
      exact wpOp_of _ rfl rfl (v_load24 (.tmp 44) _ _ _ rfl (veval_of (h.val 3 44 _ rfl (by decide))) ((q.ar.cell 0).trans (F.ge _)) ⟨rfl, rfl⟩)
    | 5, hT =>
      obtain ⟨rfl, rfl⟩ := Prod.mk.inj (Option.some.inj (show some ((some 46 : Option Nat), (.inl (.pointer (some ⟨gO, 1, none⟩)) : Value ⊕ Nat)) = some (d, x) from hT))
      exact wpOp_of _ rfl rfl (v_f81 (.tmp 3) 1 _ 1 rfl (by decide) (veval_of ((h.ot 3 (by decide)).trans h3)) ⟨rfl, rfl⟩)
    | 6, hT =>
      obtain ⟨rfl, rfl⟩ := Prod.mk.inj (Option.some.inj (show some ((some 47 : Option Nat), (.inl (.int .i64 A) : Value ⊕ Nat)) = some (d, x) from hT))
      have n1 := h.later 1 14 rfl 18 (by kernel_rfl)
      have q := (h.r.early n1).2.2
      have hq : w'.cell? ⟨gO, 1, none⟩ = some (.int .i64 A) := (q.fr.arr (fun z => z.elim hgO hgO2) harO).cell 1
      exact wpOp_of _ rfl rfl (v_load3 (.tmp 46) _ _ _ rfl (veval_of (h.val 5 46 _ rfl (by decide))) hq ⟨rfl, rfl⟩)
    | 7, hT =>
      obtain ⟨rfl, rfl⟩ := Prod.mk.inj (Option.some.inj (show some ((some 48 : Option Nat), (.inl (.pointer (some ⟨gO, 2, none⟩)) : Value ⊕ Nat)) = some (d, x) from hT))
      exact wpOp_of _ rfl rfl (v_f81 (.tmp 3) 2 _ 2 rfl (by decide) (veval_of ((h.ot 3 (by decide)).trans h3)) ⟨rfl, rfl⟩)
    | 8, hT =>
      obtain ⟨rfl, rfl⟩ := Prod.mk.inj (Option.some.inj (show some ((some 49 : Option Nat), (.inl (.int .i64 Bf) : Value ⊕ Nat)) = some (d, x) from hT))
      have n1 := h.later 1 14 rfl 18 (by kernel_rfl)
      have q := (h.r.early n1).2.2
      have hq : w'.cell? ⟨gO, 2, none⟩ = some (.int .i64 Bf) := (q.fr.arr (fun z => z.elim hgO hgO2) harO).cell 2
      exact wpOp_of _ rfl rfl (v_load3 (.tmp 48) _ _ _ rfl (veval_of (h.val 7 48 _ rfl (by decide))) hq ⟨rfl, rfl⟩)
    | 9, hT =>
      obtain ⟨rfl, rfl⟩ := Prod.mk.inj (Option.some.inj (show some ((some 50 : Option Nat), (.inl (.pointer (some ⟨gO, 1, none⟩)) : Value ⊕ Nat)) = some (d, x) from hT))
      exact wpOp_of _ rfl rfl (v_f81 (.tmp 3) 1 _ 1 rfl (by decide) (veval_of ((h.ot 3 (by decide)).trans h3)) ⟨rfl, rfl⟩)
    | 10, hT =>
      obtain ⟨rfl, rfl⟩ := Prod.mk.inj (Option.some.inj (show some ((some 51 : Option Nat), (.inl (.int .i64 A) : Value ⊕ Nat)) = some (d, x) from hT))
      have n1 := h.later 1 14 rfl 18 (by kernel_rfl)
      have q := (h.r.early n1).2.2
      have hq : w'.cell? ⟨gO, 1, none⟩ = some (.int .i64 A) := (q.fr.arr (fun z => z.elim hgO hgO2) harO).cell 1
      exact wpOp_of _ rfl rfl (v_load3 (.tmp 50) _ _ _ rfl (veval_of (h.val 9 50 _ rfl (by decide))) hq ⟨rfl, rfl⟩)
    | 11, hT =>
      obtain ⟨rfl, rfl⟩ := Prod.mk.inj (Option.some.inj (show some ((some 52 : Option Nat), (.inr 4 : Value ⊕ Nat)) = some (d, x) from hT))
      have n1 := h.later 1 14 rfl 18 (by kernel_rfl)
      refine wpOp_of _ rfl rfl (v_call 49 _ _ rfl _ Try.func49 (by kernel_rfl) (by kernel_rfl) #[.int .i64 Bf, .int .i64 A] (by simp [veval_of (h.val 8 49 _ rfl (by decide)), veval_of (h.val 10 51 _ rfl (by decide))]; exact ⟨rfl, rfl⟩) ((masked_c Bf A w').mono ?_))
      rintro e w2 ⟨⟨u, rfl, hu⟩, rfl⟩
      exact ⟨_, rfl, _, rfl, h.r.call n1 _ ⟨u, rfl, hu⟩⟩
    | 12, hT =>
      obtain ⟨rfl, rfl⟩ := Prod.mk.inj (Option.some.inj (show some ((some 53 : Option Nat), (.inr 3 : Value ⊕ Nat)) = some (d, x) from hT))
      have n1 := h.later 1 14 rfl 18 (by kernel_rfl)
      obtain ⟨u4, e4⟩ := h.has 4 11 rfl 18 (by kernel_rfl)
      obtain ⟨k9, rfl, hk9⟩ := (h.r.early n1).2.1 u4 e4
      exact wpOp_of _ rfl rfl (v_b6 47 _ 52 _ rfl (h.val 6 47 _ rfl (by decide)) (h.vale 11 52 4 rfl (by decide) e4) ⟨_, rfl, h.r.elem n1 ((⟨A, false, k9, 0, 0⟩ : Cel)) (⟨hA, hk9, by simp [I64], by simp [I64]⟩) (trivial)⟩)
    | 13, hT =>
      obtain ⟨rfl, rfl⟩ := Prod.mk.inj (Option.some.inj (show some ((some 54 : Option Nat), (.inr 0 : Value ⊕ Nat)) = some (d, x) from hT))
      have n1 := h.later 1 14 rfl 18 (by kernel_rfl)
      obtain ⟨u3, e3⟩ := h.has 3 12 rfl 18 (by kernel_rfl)
      obtain ⟨y, rfl, hR⟩ := h.r.alloc F n1 e3
      exact wpOp_of _ rfl rfl (v_bs24 53 _ _ _ _ _ rfl (h.vale 12 53 3 rfl (by decide) e3) ⟨_, rfl, hR⟩)
    | 14, hT =>
      obtain ⟨rfl, rfl⟩ := Prod.mk.inj (Option.some.inj (show some ((some 55 : Option Nat), (.inr 1 : Value ⊕ Nat)) = some (d, x) from hT))
      have n1 := h.not 1 rfl
      obtain ⟨u0, e0⟩ := h.has 0 13 rfl 18 (by kernel_rfl)
      obtain ⟨g', c', w2, hrun, hR⟩ := h.r.app F n1 e0 hl
      exact wpOp_of _ rfl rfl (v_append (.tmp 45) (.tmp 54) 24 rfl _ _ _ _ (veval_of (h.val 4 45 _ rfl (by decide))) (veval_of (h.vale 13 54 0 rfl (by decide) e0)) hrun ⟨_, rfl, hR⟩)
    | 15, hT =>
      obtain ⟨rfl, rfl⟩ := Prod.mk.inj (Option.some.inj (show some ((some 56 : Option Nat), (.inl (.pointer (some ⟨gb, 0, none⟩)) : Value ⊕ Nat)) = some (d, x) from hT))
      exact wpOp_of _ rfl rfl (v_nil (.tmp 41) _ rfl (veval_of (h.val 0 41 _ rfl (by decide))) ⟨rfl, rfl⟩)
    | 16, hT =>
      obtain ⟨rfl, rfl⟩ := Prod.mk.inj (Option.some.inj (show some ((some 57 : Option Nat), (.inl (.pointer (some ⟨gb, 0, none⟩)) : Value ⊕ Nat)) = some (d, x) from hT))
      exact wpOp_of _ rfl rfl (v_f78 (.tmp 56) 0 _ 0 rfl (by decide) (veval_of (h.val 15 56 _ rfl (by decide))) ⟨rfl, rfl⟩)
    | 17, hT =>
      obtain ⟨rfl, rfl⟩ := Prod.mk.inj (Option.some.inj (show some ((none : Option Nat), (.inr 2 : Value ⊕ Nat)) = some (d, x) from hT))
      obtain ⟨u1, e1⟩ := h.has 1 14 rfl 18 (by kernel_rfl)
      obtain ⟨b', m', c', rfl, ⟨u', hu'⟩, hfz, hR⟩ := h.r.hdr F e1
      exact wpOp_of _ rfl rfl (v_store24 (.tmp 57) (.tmp 55) _ _ _ _ _ _ rfl rfl (veval_of (h.val 16 57 _ rfl (by decide))) (veval_of (h.vale 14 55 1 rfl (by decide) e1)) hu' hfz ⟨.bool true, rfl, hR _⟩)
    | i + 18, hT => simp [tq6T] at hT
  · intro vs w' hv hR
    obtain ⟨u1, e1⟩ := hv 1 (by decide)
    obtain ⟨u4, e4⟩ := hv 2 (by decide)
    exact hend vs w' (hR.fin e1 e4)
def tq8 : Array Oper := #[{ dst := some 60, op := Go.Op.move (Go.Operand.tmp 0), type := 75, pos := "build.go:107", after := #[], guard := none }, { dst := some 61, op := Go.Op.nilCheck (Go.Operand.tmp 60), type := 0, pos := "build.go:107", after := #[{ on := 0, ground := Go.Ground.data }], guard := none }, { dst := some 62, op := Go.Op.fieldAddr 78 (Go.Operand.tmp 61) 1, type := 0, pos := "build.go:107", after := #[{ on := 1, ground := Go.Ground.data }], guard := none }, { dst := some 63, op := Go.Op.load 29 (Go.Operand.tmp 62), type := 29, pos := "build.go:107", after := #[{ on := 2, ground := Go.Ground.data }], guard := none }, { dst := some 64, op := Go.Op.fieldAddr 81 (Go.Operand.tmp 3) 1, type := 0, pos := "build.go:107", after := #[], guard := none }, { dst := some 65, op := Go.Op.load 3 (Go.Operand.tmp 64), type := 3, pos := "build.go:107", after := #[{ on := 4, ground := Go.Ground.data }], guard := none }, { dst := some 66, op := Go.Op.fieldAddr 81 (Go.Operand.tmp 3) 2, type := 0, pos := "build.go:107", after := #[], guard := none }, { dst := some 67, op := Go.Op.load 3 (Go.Operand.tmp 66), type := 3, pos := "build.go:107", after := #[{ on := 6, ground := Go.Ground.data }], guard := none }, { dst := some 68, op := Go.Op.fieldAddr 81 (Go.Operand.tmp 3) 1, type := 0, pos := "build.go:107", after := #[], guard := none }, { dst := some 69, op := Go.Op.load 3 (Go.Operand.tmp 68), type := 3, pos := "build.go:107", after := #[{ on := 8, ground := Go.Ground.data }], guard := none }, { dst := some 70, op := Go.Op.call { callee := Go.Callee.value (Go.Operand.func 49), args := #[Go.Operand.tmp 67, Go.Operand.tmp 69], argTypes := #[3, 3] }, type := 28, pos := "build.go:107", after := #[{ on := 7, ground := Go.Ground.data }, { on := 9, ground := Go.Ground.data }], guard := none }, { dst := some 71, op := Go.Op.build 31 #[(0, Go.Operand.const (Go.Value.int Go.IntKind.i64 0)), (1, Go.Operand.tmp 65), (3, Go.Operand.tmp 70)], type := 31, pos := "build.go:107", after := #[{ on := 5, ground := Go.Ground.data }, { on := 10, ground := Go.Ground.data }], guard := none }, { dst := some 72, op := Go.Op.call { callee := Go.Callee.builtin Go.Builtin.len, args := #[Go.Operand.tmp 63], argTypes := #[29] }, type := 3, pos := "build.go:107", after := #[{ on := 3, ground := Go.Ground.data }], guard := none }, { dst := some 73, op := Go.Op.buildSlice 29 1 #[(0, Go.Operand.const (Go.Value.agg #[Go.Value.int Go.IntKind.i64 0, Go.Value.int Go.IntKind.i64 0, Go.Value.int Go.IntKind.i64 0, Go.Value.int Go.IntKind.u64 0, Go.Value.int Go.IntKind.i64 0, Go.Value.int Go.IntKind.i64 0, Go.Value.slice none 0 0]))], type := 29, pos := "build.go:107", after := #[], guard := none }, { dst := some 74, op := Go.Op.call { callee := Go.Callee.builtin Go.Builtin.append, args := #[Go.Operand.tmp 63, Go.Operand.tmp 73], argTypes := #[29, 29] }, type := 29, pos := "build.go:107", after := #[{ on := 3, ground := Go.Ground.data }, { on := 13, ground := Go.Ground.data }, { on := 10, ground := Go.Ground.chain }, { on := 0, ground := Go.Ground.phase }, { on := 1, ground := Go.Ground.phase }, { on := 2, ground := Go.Ground.phase }, { on := 3, ground := Go.Ground.phase }, { on := 4, ground := Go.Ground.phase }, { on := 5, ground := Go.Ground.phase }, { on := 6, ground := Go.Ground.phase }, { on := 7, ground := Go.Ground.phase }, { on := 8, ground := Go.Ground.phase }, { on := 9, ground := Go.Ground.phase }, { on := 10, ground := Go.Ground.phase }, { on := 11, ground := Go.Ground.phase }, { on := 12, ground := Go.Ground.phase }, { on := 13, ground := Go.Ground.phase }], guard := none }, { dst := some 75, op := Go.Op.indexAddr 29 (Go.Operand.tmp 74) (Go.Operand.tmp 72), type := 0, pos := "build.go:107", after := #[{ on := 14, ground := Go.Ground.data }, { on := 12, ground := Go.Ground.data }, { on := 0, ground := Go.Ground.phase }, { on := 1, ground := Go.Ground.phase }, { on := 2, ground := Go.Ground.phase }, { on := 3, ground := Go.Ground.phase }, { on := 4, ground := Go.Ground.phase }, { on := 5, ground := Go.Ground.phase }, { on := 6, ground := Go.Ground.phase }, { on := 7, ground := Go.Ground.phase }, { on := 8, ground := Go.Ground.phase }, { on := 9, ground := Go.Ground.phase }, { on := 10, ground := Go.Ground.phase }, { on := 11, ground := Go.Ground.phase }, { on := 12, ground := Go.Ground.phase }, { on := 13, ground := Go.Ground.phase }, { on := 14, ground := Go.Ground.phase }, { on := 19, ground := Go.Ground.gcOnly Go.Departure.appendInPlace }], guard := none }, { dst := none, op := Go.Op.store 31 (Go.Operand.tmp 75) (Go.Operand.tmp 71), type := 0, pos := "build.go:107", after := #[{ on := 15, ground := Go.Ground.data }, { on := 11, ground := Go.Ground.data }, { on := 14, ground := Go.Ground.chain }, { on := 0, ground := Go.Ground.phase }, { on := 1, ground := Go.Ground.phase }, { on := 2, ground := Go.Ground.phase }, { on := 3, ground := Go.Ground.phase }, { on := 4, ground := Go.Ground.phase }, { on := 5, ground := Go.Ground.phase }, { on := 6, ground := Go.Ground.phase }, { on := 7, ground := Go.Ground.phase }, { on := 8, ground := Go.Ground.phase }, { on := 9, ground := Go.Ground.phase }, { on := 10, ground := Go.Ground.phase }, { on := 11, ground := Go.Ground.phase }, { on := 12, ground := Go.Ground.phase }, { on := 13, ground := Go.Ground.phase }, { on := 14, ground := Go.Ground.phase }, { on := 19, ground := Go.Ground.gcOnly Go.Departure.appendInPlace }], guard := none }, { dst := some 76, op := Go.Op.nilCheck (Go.Operand.tmp 60), type := 0, pos := "build.go:107", after := #[{ on := 0, ground := Go.Ground.data }, { on := 0, ground := Go.Ground.phase }, { on := 1, ground := Go.Ground.phase }, { on := 2, ground := Go.Ground.phase }, { on := 3, ground := Go.Ground.phase }, { on := 4, ground := Go.Ground.phase }, { on := 5, ground := Go.Ground.phase }, { on := 6, ground := Go.Ground.phase }, { on := 7, ground := Go.Ground.phase }, { on := 8, ground := Go.Ground.phase }, { on := 9, ground := Go.Ground.phase }, { on := 10, ground := Go.Ground.phase }, { on := 11, ground := Go.Ground.phase }, { on := 12, ground := Go.Ground.phase }, { on := 13, ground := Go.Ground.phase }, { on := 14, ground := Go.Ground.phase }, { on := 15, ground := Go.Ground.textOnly Go.Departure.appendInPlace }, { on := 16, ground := Go.Ground.textOnly Go.Departure.appendInPlace }], guard := none }, { dst := some 77, op := Go.Op.fieldAddr 78 (Go.Operand.tmp 76) 1, type := 0, pos := "build.go:107", after := #[{ on := 17, ground := Go.Ground.data }, { on := 0, ground := Go.Ground.phase }, { on := 1, ground := Go.Ground.phase }, { on := 2, ground := Go.Ground.phase }, { on := 3, ground := Go.Ground.phase }, { on := 4, ground := Go.Ground.phase }, { on := 5, ground := Go.Ground.phase }, { on := 6, ground := Go.Ground.phase }, { on := 7, ground := Go.Ground.phase }, { on := 8, ground := Go.Ground.phase }, { on := 9, ground := Go.Ground.phase }, { on := 10, ground := Go.Ground.phase }, { on := 11, ground := Go.Ground.phase }, { on := 12, ground := Go.Ground.phase }, { on := 13, ground := Go.Ground.phase }, { on := 14, ground := Go.Ground.phase }, { on := 15, ground := Go.Ground.textOnly Go.Departure.appendInPlace }, { on := 16, ground := Go.Ground.textOnly Go.Departure.appendInPlace }], guard := none }, { dst := none, op := Go.Op.store 29 (Go.Operand.tmp 77) (Go.Operand.tmp 74), type := 0, pos := "build.go:107", after := #[{ on := 18, ground := Go.Ground.data }, { on := 14, ground := Go.Ground.data }, { on := 14, ground := Go.Ground.chain }, { on := 16, ground := Go.Ground.textOnly Go.Departure.appendInPlace }, { on := 0, ground := Go.Ground.phase }, { on := 1, ground := Go.Ground.phase }, { on := 2, ground := Go.Ground.phase }, { on := 3, ground := Go.Ground.phase }, { on := 4, ground := Go.Ground.phase }, { on := 5, ground := Go.Ground.phase }, { on := 6, ground := Go.Ground.phase }, { on := 7, ground := Go.Ground.phase }, { on := 8, ground := Go.Ground.phase }, { on := 9, ground := Go.Ground.phase }, { on := 10, ground := Go.Ground.phase }, { on := 11, ground := Go.Ground.phase }, { on := 12, ground := Go.Ground.phase }, { on := 13, ground := Go.Ground.phase }, { on := 14, ground := Go.Ground.phase }, { on := 15, ground := Go.Ground.textOnly Go.Departure.appendInPlace }, { on := 16, ground := Go.Ground.textOnly Go.Departure.appendInPlace }], guard := none }]
def tq8T (gb gO gE : Nat) (A Bf Cf D : Int) (va : Option Addr) (vc n : Nat) : List (Option Nat × (Value ⊕ Nat)) := [(some 60, .inl (.pointer (some ⟨gb, 0, none⟩))), (some 61, .inl (.pointer (some ⟨gb, 0, none⟩))), (some 62, .inl (.pointer (some ⟨gb, 1, none⟩))), (some 63, .inl (.slice va n vc)), (some 64, .inl (.pointer (some ⟨gO, 1, none⟩))), (some 65, .inl (.int .i64 A)), (some 66, .inl (.pointer (some ⟨gO, 2, none⟩))), (some 67, .inl (.int .i64 Bf)), (some 68, .inl (.pointer (some ⟨gO, 1, none⟩))), (some 69, .inl (.int .i64 A)), (some 70, .inr 6), (some 71, .inr 5), (some 72, .inl (.int .i64 ((n : Nat) : Int))), (some 73, .inr 0), (some 74, .inr 1), (some 75, .inr 2), (none, .inr 3), (some 76, .inl (.pointer (some ⟨gb, 0, none⟩))), (some 77, .inl (.pointer (some ⟨gb, 1, none⟩))), (none, .inr 4)]
theorem tq8_chk : chk tq8 tq8.size = true := by kernel_rfl
set_option maxRecDepth 4000 in
set_option maxHeartbeats 4000000 in
theorem tq8_c {Q : Exit → Act → World → Prop} {a0 : Act} {w : World} {B gb gO gE : Nat} {A Bf Cf D Kf : Int} {hd : Value → List Value} {P : Nat → Prop} {C : World → Value → List (NE) → Prop} {va : Option Addr} {vc : Nat} {l : List (NE)} (F : Foc neC 7 31 29 B gb 1 hd (fun w x => NEok P w x) C) (hz0 : a0.tmps.size = 500) (ar : Arr w.drew gb 78 (hd (.slice va l.length vc))) (hc : C w.drew (.slice va l.length vc) l) (hl : l.length ≤ 1000000)
    (h0 : a0.tmps[0]? = some (.pointer (some ⟨gb, 0, none⟩)))
    (h3 : a0.tmps[3]? = some (.pointer (some ⟨gO, 0, none⟩)))
    (harO : Arr w.drew gO 81 [.int .i64 Kf, .int .i64 A, .int .i64 Bf, .int .i64 Cf, .int .i64 D]) (hgO : gO ≠ gb) (hgO2 : (Value.slice va l.length vc).ownBlock ≠ some gO)
    (hA : I64 A)
    (hend : ∀ vs w', (∃ g c x, (fun _ => True) x ∧ Lat neC 31 gb w.drew hd (fun w x => NEok P w x) C (.slice va l.length vc) l g c x true w') → Q .normal (lay a0 (Lmx (tq8T gb gO gE A Bf Cf D va vc l.length) vs)) w') :
    (Code.region 8 tq8 true).wp Try.prog Q a0 w := by
  refine wp_region_mx (by rfl) (tq8T gb gO gE A Bf Cf D va vc l.length) [60, 61, 62, 63, 64, 65, 66, 67, 68, 69, 70, 71, 72, 73, 74, 75, 76, 77] [none, none, none, none, none, none, none, none, none, none, some 6, some 5, none, some 0, some 1, some 2, some 3, none, none, some 4] [13, 14, 15, 16, 19, 11, 10] rfl rfl rfl tq8_chk (by decide) (by decide) (by
    intro d hd
    rw [hz0]
    have : ∀ y ∈ [60, 61, 62, 63, 64, 65, 66, 67, 68, 69, 70, 71, 72, 73, 74, 75, 76, 77], y < 500 := by decide
    exact this _ hd) (R2 neC 31 7 gb w.drew hd (fun w x => NEok P w x) (fun _ => True) C (.slice va l.length vc) l zE (fun u => ∃ k : Nat, u = .int .u64 (k : Int) ∧ k < 2 ^ 64)) (R2.start F ar hc) ?_ ?_
  · intro i d x hT listed vs a w' h
    match i, hT with
    | 0, hT =>
      obtain ⟨rfl, rfl⟩ := Prod.mk.inj (Option.some.inj (show some ((some 60 : Option Nat), (.inl (.pointer (some ⟨gb, 0, none⟩)) : Value ⊕ Nat)) = some (d, x) from hT))
      exact wpOp_of _ rfl rfl (v_move (.tmp 0) _ rfl (veval_of ((h.ot 0 (by decide)).trans h0)) ⟨rfl, rfl⟩)
    | 1, hT =>
      obtain ⟨rfl, rfl⟩ := Prod.mk.inj (Option.some.inj (show some ((some 61 : Option Nat), (.inl (.pointer (some ⟨gb, 0, none⟩)) : Value ⊕ Nat)) = some (d, x) from hT))
      exact wpOp_of _ rfl rfl (v_nil (.tmp 60) _ rfl (veval_of (h.val 0 60 _ rfl (by decide))) ⟨rfl, rfl⟩)
    | 2, hT =>
      obtain ⟨rfl, rfl⟩ := Prod.mk.inj (Option.some.inj (show some ((some 62 : Option Nat), (.inl (.pointer (some ⟨gb, 1, none⟩)) : Value ⊕ Nat)) = some (d, x) from hT))
      exact wpOp_of _ rfl rfl (v_f78 (.tmp 61) 1 _ 1 rfl (by decide) (veval_of (h.val 1 61 _ rfl (by decide))) ⟨rfl, rfl⟩)
    | 3, hT =>
      obtain ⟨rfl, rfl⟩ := Prod.mk.inj (Option.some.inj (show some ((some 63 : Option Nat), (.inl (.slice va l.length vc) : Value ⊕ Nat)) = some (d, x) from hT))
      have n1 := h.later 1 14 rfl 20 (by kernel_rfl)
      have q := (h.r.early n1).2.2.2.2
      exact wpOp_of _ rfl rfl (v_load29 (.tmp 62) _ _ _ rfl (veval_of (h.val 2 62 _ rfl (by decide))) ((q.ar.cell 1).trans (F.ge _)) ⟨rfl, rfl⟩)
    | 4, hT =>
      obtain ⟨rfl, rfl⟩ := Prod.mk.inj (Option.some.inj (show some ((some 64 : Option Nat), (.inl (.pointer (some ⟨gO, 1, none⟩)) : Value ⊕ Nat)) = some (d, x) from hT))
      exact wpOp_of _ rfl rfl (v_f81 (.tmp 3) 1 _ 1 rfl (by decide) (veval_of ((h.ot 3 (by decide)).trans h3)) ⟨rfl, rfl⟩)
    | 5, hT =>
      obtain ⟨rfl, rfl⟩ := Prod.mk.inj (Option.some.inj (show some ((some 65 : Option Nat), (.inl (.int .i64 A) : Value ⊕ Nat)) = some (d, x) from hT))
      have n1 := h.later 1 14 rfl 20 (by kernel_rfl)
      have q := (h.r.early n1).2.2.2.2
      have hq : w'.cell? ⟨gO, 1, none⟩ = some (.int .i64 A) := (q.fr.arr (fun z => z.elim hgO hgO2) harO).cell 1
      exact wpOp_of _ rfl rfl (v_load3 (.tmp 64) _ _ _ rfl (veval_of (h.val 4 64 _ rfl (by decide))) hq ⟨rfl, rfl⟩)
    | 6, hT =>
      obtain ⟨rfl, rfl⟩ := Prod.mk.inj (Option.some.inj (show some ((some 66 : Option Nat), (.inl (.pointer (some ⟨gO, 2, none⟩)) : Value ⊕ Nat)) = some (d, x) from hT))
      exact wpOp_of _ rfl rfl (v_f81 (.tmp 3) 2 _ 2 rfl (by decide) (veval_of ((h.ot 3 (by decide)).trans h3)) ⟨rfl, rfl⟩)
    | 7, hT =>
      obtain ⟨rfl, rfl⟩ := Prod.mk.inj (Option.some.inj (show some ((some 67 : Option Nat), (.inl (.int .i64 Bf) : Value ⊕ Nat)) = some (d, x) from hT))
      have n1 := h.later 1 14 rfl 20 (by kernel_rfl)
      have q := (h.r.early n1).2.2.2.2
      have hq : w'.cell? ⟨gO, 2, none⟩ = some (.int .i64 Bf) := (q.fr.arr (fun z => z.elim hgO hgO2) harO).cell 2
      exact wpOp_of _ rfl rfl (v_load3 (.tmp 66) _ _ _ rfl (veval_of (h.val 6 66 _ rfl (by decide))) hq ⟨rfl, rfl⟩)
    | 8, hT =>
      obtain ⟨rfl, rfl⟩ := Prod.mk.inj (Option.some.inj (show some ((some 68 : Option Nat), (.inl (.pointer (some ⟨gO, 1, none⟩)) : Value ⊕ Nat)) = some (d, x) from hT))
      exact wpOp_of _ rfl rfl (v_f81 (.tmp 3) 1 _ 1 rfl (by decide) (veval_of ((h.ot 3 (by decide)).trans h3)) ⟨rfl, rfl⟩)
    | 9, hT =>
      obtain ⟨rfl, rfl⟩ := Prod.mk.inj (Option.some.inj (show some ((some 69 : Option Nat), (.inl (.int .i64 A) : Value ⊕ Nat)) = some (d, x) from hT))
      have n1 := h.later 1 14 rfl 20 (by kernel_rfl)
      have q := (h.r.early n1).2.2.2.2
      have hq : w'.cell? ⟨gO, 1, none⟩ = some (.int .i64 A) := (q.fr.arr (fun z => z.elim hgO hgO2) harO).cell 1
      exact wpOp_of _ rfl rfl (v_load3 (.tmp 68) _ _ _ rfl (veval_of (h.val 8 68 _ rfl (by decide))) hq ⟨rfl, rfl⟩)
    | 10, hT =>
      obtain ⟨rfl, rfl⟩ := Prod.mk.inj (Option.some.inj (show some ((some 70 : Option Nat), (.inr 6 : Value ⊕ Nat)) = some (d, x) from hT))
      have n1 := h.later 1 14 rfl 20 (by kernel_rfl)
      refine wpOp_of _ rfl rfl (v_call 49 _ _ rfl _ Try.func49 (by kernel_rfl) (by kernel_rfl) #[.int .i64 Bf, .int .i64 A] (by simp [veval_of (h.val 7 67 _ rfl (by decide)), veval_of (h.val 9 69 _ rfl (by decide))]; exact ⟨rfl, rfl⟩) ((masked_c Bf A w').mono ?_))
      rintro e w2 ⟨⟨u, rfl, hu⟩, rfl⟩
      exact ⟨_, rfl, _, rfl, h.r.call n1 _ ⟨u, rfl, hu⟩⟩
    | 11, hT =>
      obtain ⟨rfl, rfl⟩ := Prod.mk.inj (Option.some.inj (show some ((some 71 : Option Nat), (.inr 5 : Value ⊕ Nat)) = some (d, x) from hT))
      have n1 := h.later 1 14 rfl 20 (by kernel_rfl)
      obtain ⟨u6, e6⟩ := h.has 6 10 rfl 20 (by kernel_rfl)
      obtain ⟨k9, rfl, hk9⟩ := (h.r.early n1).2.2.2.1 u6 e6
      exact wpOp_of _ rfl rfl (v_b8 65 _ 70 _ rfl (h.val 5 65 _ rfl (by decide)) (h.vale 10 70 6 rfl (by decide) e6) ⟨_, rfl, h.r.elem n1 ((⟨⟨0, A, 0, k9, 0, 0⟩, .slice none 0 0, .nil, []⟩ : NE)) (⟨⟨by simp [I64], hA, by simp [I64], hk9, by simp [I64], by simp [I64]⟩, rows_nil P w' 7, rfl⟩) (trivial)⟩)
    | 12, hT =>
      obtain ⟨rfl, rfl⟩ := Prod.mk.inj (Option.some.inj (show some ((some 72 : Option Nat), (.inl (.int .i64 ((l.length : Nat) : Int)) : Value ⊕ Nat)) = some (d, x) from hT))
      exact wpOp_of _ rfl rfl (v_len29 63 _ _ _ rfl rfl (h.val 3 63 _ rfl (by decide)) ⟨rfl, rfl⟩)
    | 13, hT =>
      obtain ⟨rfl, rfl⟩ := Prod.mk.inj (Option.some.inj (show some ((some 73 : Option Nat), (.inr 0 : Value ⊕ Nat)) = some (d, x) from hT))
      have n1 := h.later 1 14 rfl 20 (by kernel_rfl)
      exact wpOp_of _ rfl rfl (v_bz29 rfl ⟨_, rfl, h.r.alloc F n1 (zE_ok P w')⟩)
    | 14, hT =>
      obtain ⟨rfl, rfl⟩ := Prod.mk.inj (Option.some.inj (show some ((some 74 : Option Nat), (.inr 1 : Value ⊕ Nat)) = some (d, x) from hT))
      have n1 := h.not 1 rfl
      obtain ⟨u0, e0⟩ := h.has 0 13 rfl 20 (by kernel_rfl)
      obtain ⟨u5, e5⟩ := h.has 5 11 rfl 20 (by kernel_rfl)
      obtain ⟨g', c', w2, hrun, hR⟩ := h.r.app F n1 e0 e5 hl
      exact wpOp_of _ rfl rfl (v_append (.tmp 63) (.tmp 73) 29 rfl _ _ _ _ (veval_of (h.val 3 63 _ rfl (by decide))) (veval_of (h.vale 13 73 0 rfl (by decide) e0)) hrun ⟨_, rfl, hR⟩)
    | 15, hT =>
      obtain ⟨rfl, rfl⟩ := Prod.mk.inj (Option.some.inj (show some ((some 75 : Option Nat), (.inr 2 : Value ⊕ Nat)) = some (d, x) from hT))
      obtain ⟨u1, e1⟩ := h.has 1 14 rfl 20 (by kernel_rfl)
      obtain ⟨g', c', rfl, hR⟩ := h.r.idx e1
      exact wpOp_of _ rfl rfl (v_idx29 (.tmp 74) (.tmp 72) _ _ _ _ rfl (veval_of (h.vale 14 74 1 rfl (by decide) e1)) (veval_of (h.val 12 72 _ rfl (by decide))) (Nat.lt_succ_self _) ⟨_, rfl, hR⟩)
    | 16, hT =>
      obtain ⟨rfl, rfl⟩ := Prod.mk.inj (Option.some.inj (show some ((none : Option Nat), (.inr 3 : Value ⊕ Nat)) = some (d, x) from hT))
      obtain ⟨u1, e1⟩ := h.has 1 14 rfl 20 (by kernel_rfl)
      obtain ⟨u2, e2⟩ := h.has 2 15 rfl 20 (by kernel_rfl)
      obtain ⟨u5, e5⟩ := h.has 5 11 rfl 20 (by kernel_rfl)
      obtain ⟨g', y, rfl, rfl, ho, hcs, hfz, hR⟩ := h.r.store F e1 e2 e5
      obtain ⟨ka, kc, hk, -, -⟩ := ho.2.1.form
      obtain ⟨yf, yk, yt, yr⟩ := y
      simp only at hk
      subst hk
      exact wpOp_of _ rfl rfl (v_store31 (.tmp 75) (.tmp 71) _ _ _ _ _ _ _ _ _ _ _ rfl rfl (veval_of (h.vale 15 75 2 rfl (by decide) e2)) (veval_of (h.vale 11 71 5 rfl (by decide) e5)) hcs hfz ⟨.bool true, rfl, hR _⟩)
    | 17, hT =>
      obtain ⟨rfl, rfl⟩ := Prod.mk.inj (Option.some.inj (show some ((some 76 : Option Nat), (.inl (.pointer (some ⟨gb, 0, none⟩)) : Value ⊕ Nat)) = some (d, x) from hT))
      exact wpOp_of _ rfl rfl (v_nil (.tmp 60) _ rfl (veval_of (h.val 0 60 _ rfl (by decide))) ⟨rfl, rfl⟩)
    | 18, hT =>
      obtain ⟨rfl, rfl⟩ := Prod.mk.inj (Option.some.inj (show some ((some 77 : Option Nat), (.inl (.pointer (some ⟨gb, 1, none⟩)) : Value ⊕ Nat)) = some (d, x) from hT))
      exact wpOp_of _ rfl rfl (v_f78 (.tmp 76) 1 _ 1 rfl (by decide) (veval_of (h.val 17 76 _ rfl (by decide))) ⟨rfl, rfl⟩)
    | 19, hT =>
      obtain ⟨rfl, rfl⟩ := Prod.mk.inj (Option.some.inj (show some ((none : Option Nat), (.inr 4 : Value ⊕ Nat)) = some (d, x) from hT))
      obtain ⟨u1, e1⟩ := h.has 1 14 rfl 20 (by kernel_rfl)
      obtain ⟨b', m', c', rfl, ⟨u', hu'⟩, hfz, hR⟩ := h.r.hdr F e1
      exact wpOp_of _ rfl rfl (v_store29 (.tmp 77) (.tmp 74) _ _ _ _ _ _ rfl rfl (veval_of (h.val 18 77 _ rfl (by decide))) (veval_of (h.vale 14 74 1 rfl (by decide) e1)) hu' hfz ⟨.bool true, rfl, hR _⟩)
    | i + 20, hT => simp [tq8T] at hT
  · intro vs w' hv hR
    obtain ⟨u1, e1⟩ := hv 1 (by decide)
    obtain ⟨u3, e3⟩ := hv 3 (by decide)
    obtain ⟨u4, e4⟩ := hv 4 (by decide)
    exact hend vs w' (hR.fin e1 e3 e4)
def tq10 : Array Oper := #[{ dst := some 80, op := Go.Op.move (Go.Operand.tmp 0), type := 75, pos := "build.go:109", after := #[], guard := none }, { dst := some 81, op := Go.Op.nilCheck (Go.Operand.tmp 80), type := 0, pos := "build.go:109", after := #[{ on := 0, ground := Go.Ground.data }], guard := none }, { dst := some 82, op := Go.Op.fieldAddr 78 (Go.Operand.tmp 81) 1, type := 0, pos := "build.go:109", after := #[{ on := 1, ground := Go.Ground.data }], guard := none }, { dst := some 83, op := Go.Op.load 29 (Go.Operand.tmp 82), type := 29, pos := "build.go:109", after := #[{ on := 2, ground := Go.Ground.data }], guard := none }, { dst := some 84, op := Go.Op.move (Go.Operand.tmp 0), type := 75, pos := "build.go:109", after := #[], guard := none }, { dst := some 85, op := Go.Op.fieldAddr 81 (Go.Operand.tmp 3) 1, type := 0, pos := "build.go:109", after := #[], guard := none }, { dst := some 86, op := Go.Op.load 3 (Go.Operand.tmp 85), type := 3, pos := "build.go:109", after := #[{ on := 5, ground := Go.Ground.data }], guard := none }, { dst := some 87, op := Go.Op.call { callee := Go.Callee.value (Go.Operand.func 50), args := #[Go.Operand.tmp 84, Go.Operand.tmp 86], argTypes := #[75, 3] }, type := 3, pos := "build.go:109", after := #[{ on := 4, ground := Go.Ground.data }, { on := 6, ground := Go.Ground.data }], guard := none }, { dst := some 88, op := Go.Op.fieldAddr 81 (Go.Operand.tmp 3) 1, type := 0, pos := "build.go:109", after := #[], guard := none }, { dst := some 89, op := Go.Op.load 3 (Go.Operand.tmp 88), type := 3, pos := "build.go:109", after := #[{ on := 8, ground := Go.Ground.data }], guard := none }, { dst := some 90, op := Go.Op.build 31 #[(0, Go.Operand.const (Go.Value.int Go.IntKind.i64 1)), (1, Go.Operand.tmp 87), (4, Go.Operand.tmp 89)], type := 31, pos := "build.go:109", after := #[{ on := 7, ground := Go.Ground.data }, { on := 9, ground := Go.Ground.data }], guard := none }, { dst := some 91, op := Go.Op.call { callee := Go.Callee.builtin Go.Builtin.len, args := #[Go.Operand.tmp 83], argTypes := #[29] }, type := 3, pos := "build.go:109", after := #[{ on := 3, ground := Go.Ground.data }], guard := none }, { dst := some 92, op := Go.Op.buildSlice 29 1 #[(0, Go.Operand.const (Go.Value.agg #[Go.Value.int Go.IntKind.i64 0, Go.Value.int Go.IntKind.i64 0, Go.Value.int Go.IntKind.i64 0, Go.Value.int Go.IntKind.u64 0, Go.Value.int Go.IntKind.i64 0, Go.Value.int Go.IntKind.i64 0, Go.Value.slice none 0 0]))], type := 29, pos := "build.go:109", after := #[], guard := none }, { dst := some 93, op := Go.Op.call { callee := Go.Callee.builtin Go.Builtin.append, args := #[Go.Operand.tmp 83, Go.Operand.tmp 92], argTypes := #[29, 29] }, type := 29, pos := "build.go:109", after := #[{ on := 3, ground := Go.Ground.data }, { on := 12, ground := Go.Ground.data }, { on := 7, ground := Go.Ground.chain }, { on := 0, ground := Go.Ground.phase }, { on := 1, ground := Go.Ground.phase }, { on := 2, ground := Go.Ground.phase }, { on := 3, ground := Go.Ground.phase }, { on := 4, ground := Go.Ground.phase }, { on := 5, ground := Go.Ground.phase }, { on := 6, ground := Go.Ground.phase }, { on := 7, ground := Go.Ground.phase }, { on := 8, ground := Go.Ground.phase }, { on := 9, ground := Go.Ground.phase }, { on := 10, ground := Go.Ground.phase }, { on := 11, ground := Go.Ground.phase }, { on := 12, ground := Go.Ground.phase }], guard := none }, { dst := some 94, op := Go.Op.indexAddr 29 (Go.Operand.tmp 93) (Go.Operand.tmp 91), type := 0, pos := "build.go:109", after := #[{ on := 13, ground := Go.Ground.data }, { on := 11, ground := Go.Ground.data }, { on := 0, ground := Go.Ground.phase }, { on := 1, ground := Go.Ground.phase }, { on := 2, ground := Go.Ground.phase }, { on := 3, ground := Go.Ground.phase }, { on := 4, ground := Go.Ground.phase }, { on := 5, ground := Go.Ground.phase }, { on := 6, ground := Go.Ground.phase }, { on := 7, ground := Go.Ground.phase }, { on := 8, ground := Go.Ground.phase }, { on := 9, ground := Go.Ground.phase }, { on := 10, ground := Go.Ground.phase }, { on := 11, ground := Go.Ground.phase }, { on := 12, ground := Go.Ground.phase }, { on := 13, ground := Go.Ground.phase }, { on := 18, ground := Go.Ground.gcOnly Go.Departure.appendInPlace }], guard := none }, { dst := none, op := Go.Op.store 31 (Go.Operand.tmp 94) (Go.Operand.tmp 90), type := 0, pos := "build.go:109", after := #[{ on := 14, ground := Go.Ground.data }, { on := 10, ground := Go.Ground.data }, { on := 13, ground := Go.Ground.chain }, { on := 0, ground := Go.Ground.phase }, { on := 1, ground := Go.Ground.phase }, { on := 2, ground := Go.Ground.phase }, { on := 3, ground := Go.Ground.phase }, { on := 4, ground := Go.Ground.phase }, { on := 5, ground := Go.Ground.phase }, { on := 6, ground := Go.Ground.phase }, { on := 7, ground := Go.Ground.phase }, { on := 8, ground := Go.Ground.phase }, { on := 9, ground := Go.Ground.phase }, { on := 10, ground := Go.Ground.phase }, { on := 11, ground := Go.Ground.phase }, { on := 12, ground := Go.Ground.phase }, { on := 13, ground := Go.Ground.phase }, { on := 18, ground := Go.Ground.gcOnly Go.Departure.appendInPlace }], guard := none }, { dst := some 95, op := Go.Op.nilCheck (Go.Operand.tmp 80), type := 0, pos := "build.go:109", after := #[{ on := 0, ground := Go.Ground.data }, { on := 0, ground := Go.Ground.phase }, { on := 1, ground := Go.Ground.phase }, { on := 2, ground := Go.Ground.phase }, { on := 3, ground := Go.Ground.phase }, { on := 4, ground := Go.Ground.phase }, { on := 5, ground := Go.Ground.phase }, { on := 6, ground := Go.Ground.phase }, { on := 7, ground := Go.Ground.phase }, { on := 8, ground := Go.Ground.phase }, { on := 9, ground := Go.Ground.phase }, { on := 10, ground := Go.Ground.phase }, { on := 11, ground := Go.Ground.phase }, { on := 12, ground := Go.Ground.phase }, { on := 13, ground := Go.Ground.phase }, { on := 14, ground := Go.Ground.textOnly Go.Departure.appendInPlace }, { on := 15, ground := Go.Ground.textOnly Go.Departure.appendInPlace }], guard := none }, { dst := some 96, op := Go.Op.fieldAddr 78 (Go.Operand.tmp 95) 1, type := 0, pos := "build.go:109", after := #[{ on := 16, ground := Go.Ground.data }, { on := 0, ground := Go.Ground.phase }, { on := 1, ground := Go.Ground.phase }, { on := 2, ground := Go.Ground.phase }, { on := 3, ground := Go.Ground.phase }, { on := 4, ground := Go.Ground.phase }, { on := 5, ground := Go.Ground.phase }, { on := 6, ground := Go.Ground.phase }, { on := 7, ground := Go.Ground.phase }, { on := 8, ground := Go.Ground.phase }, { on := 9, ground := Go.Ground.phase }, { on := 10, ground := Go.Ground.phase }, { on := 11, ground := Go.Ground.phase }, { on := 12, ground := Go.Ground.phase }, { on := 13, ground := Go.Ground.phase }, { on := 14, ground := Go.Ground.textOnly Go.Departure.appendInPlace }, { on := 15, ground := Go.Ground.textOnly Go.Departure.appendInPlace }], guard := none }, { dst := none, op := Go.Op.store 29 (Go.Operand.tmp 96) (Go.Operand.tmp 93), type := 0, pos := "build.go:109", after := #[{ on := 17, ground := Go.Ground.data }, { on := 13, ground := Go.Ground.data }, { on := 13, ground := Go.Ground.chain }, { on := 15, ground := Go.Ground.textOnly Go.Departure.appendInPlace }, { on := 0, ground := Go.Ground.phase }, { on := 1, ground := Go.Ground.phase }, { on := 2, ground := Go.Ground.phase }, { on := 3, ground := Go.Ground.phase }, { on := 4, ground := Go.Ground.phase }, { on := 5, ground := Go.Ground.phase }, { on := 6, ground := Go.Ground.phase }, { on := 7, ground := Go.Ground.phase }, { on := 8, ground := Go.Ground.phase }, { on := 9, ground := Go.Ground.phase }, { on := 10, ground := Go.Ground.phase }, { on := 11, ground := Go.Ground.phase }, { on := 12, ground := Go.Ground.phase }, { on := 13, ground := Go.Ground.phase }, { on := 14, ground := Go.Ground.textOnly Go.Departure.appendInPlace }, { on := 15, ground := Go.Ground.textOnly Go.Departure.appendInPlace }], guard := none }]
def tq10T (gb gO gE : Nat) (A Bf Cf D : Int) (va : Option Addr) (vc n : Nat) : List (Option Nat × (Value ⊕ Nat)) := [(some 80, .inl (.pointer (some ⟨gb, 0, none⟩))), (some 81, .inl (.pointer (some ⟨gb, 0, none⟩))), (some 82, .inl (.pointer (some ⟨gb, 1, none⟩))), (some 83, .inl (.slice va n vc)), (some 84, .inl (.pointer (some ⟨gb, 0, none⟩))), (some 85, .inl (.pointer (some ⟨gO, 1, none⟩))), (some 86, .inl (.int .i64 A)), (some 87, .inr 6), (some 88, .inl (.pointer (some ⟨gO, 1, none⟩))), (some 89, .inl (.int .i64 A)), (some 90, .inr 5), (some 91, .inl (.int .i64 ((n : Nat) : Int))), (some 92, .inr 0), (some 93, .inr 1), (some 94, .inr 2), (none, .inr 3), (some 95, .inl (.pointer (some ⟨gb, 0, none⟩))), (some 96, .inl (.pointer (some ⟨gb, 1, none⟩))), (none, .inr 4)]
theorem tq10_chk : chk tq10 tq10.size = true := by kernel_rfl
set_option maxRecDepth 4000 in
set_option maxHeartbeats 4000000 in
theorem tq10_c {Q : Exit → Act → World → Prop} {a0 : Act} {w : World} {B gb gO gE : Nat} {A Bf Cf D Kf : Int} {hd : Value → List Value} {P : Nat → Prop} {C : World → Value → List (NE) → Prop} {va : Option Addr} {vc : Nat} {l : List (NE)} (F : Foc neC 7 31 29 B gb 1 hd (fun w x => NEok P w x) C) (hz0 : a0.tmps.size = 500) (ar : Arr w.drew gb 78 (hd (.slice va l.length vc))) (hc : C w.drew (.slice va l.length vc) l) (hl : l.length ≤ 1000000)
    (h0 : a0.tmps[0]? = some (.pointer (some ⟨gb, 0, none⟩)))
    (h3 : a0.tmps[3]? = some (.pointer (some ⟨gO, 0, none⟩)))
    (harO : Arr w.drew gO 81 [.int .i64 Kf, .int .i64 A, .int .i64 Bf, .int .i64 Cf, .int .i64 D]) (hgO : gO ≠ gb) (hgO2 : (Value.slice va l.length vc).ownBlock ≠ some gO)
    (hA : I64 A)
    (hcall : ∀ w', C w' (.slice va l.length vc) l → Arr w' gb 78 (hd (.slice va l.length vc)) → Calls Try.prog 50 #[.pointer (some ⟨gb, 0, none⟩), .int .i64 A] w' fun e w'' => (∃ z : Int, e = .returned (.int .i64 z) ∧ I64 z) ∧ w'' = w')
    (hend : ∀ vs w', (∃ g c x, (fun _ => True) x ∧ Lat neC 31 gb w.drew hd (fun w x => NEok P w x) C (.slice va l.length vc) l g c x true w') → Q .normal (lay a0 (Lmx (tq10T gb gO gE A Bf Cf D va vc l.length) vs)) w') :
    (Code.region 10 tq10 true).wp Try.prog Q a0 w := by
  refine wp_region_mx (by rfl) (tq10T gb gO gE A Bf Cf D va vc l.length) [80, 81, 82, 83, 84, 85, 86, 87, 88, 89, 90, 91, 92, 93, 94, 95, 96] [none, none, none, none, none, none, none, some 6, none, none, some 5, none, some 0, some 1, some 2, some 3, none, none, some 4] [12, 13, 14, 15, 18, 10, 7] rfl rfl rfl tq10_chk (by decide) (by decide) (by
    intro d hd
    rw [hz0]
    have : ∀ y ∈ [80, 81, 82, 83, 84, 85, 86, 87, 88, 89, 90, 91, 92, 93, 94, 95, 96], y < 500 := by decide
    exact this _ hd) (R2 neC 31 7 gb w.drew hd (fun w x => NEok P w x) (fun _ => True) C (.slice va l.length vc) l zE (fun u => ∃ k : Int, u = .int .i64 k ∧ I64 k)) (R2.start F ar hc) ?_ ?_
  · intro i d x hT listed vs a w' h
    match i, hT with
    | 0, hT =>
      obtain ⟨rfl, rfl⟩ := Prod.mk.inj (Option.some.inj (show some ((some 80 : Option Nat), (.inl (.pointer (some ⟨gb, 0, none⟩)) : Value ⊕ Nat)) = some (d, x) from hT))
      exact wpOp_of _ rfl rfl (v_move (.tmp 0) _ rfl (veval_of ((h.ot 0 (by decide)).trans h0)) ⟨rfl, rfl⟩)
    | 1, hT =>
      obtain ⟨rfl, rfl⟩ := Prod.mk.inj (Option.some.inj (show some ((some 81 : Option Nat), (.inl (.pointer (some ⟨gb, 0, none⟩)) : Value ⊕ Nat)) = some (d, x) from hT))
      exact wpOp_of _ rfl rfl (v_nil (.tmp 80) _ rfl (veval_of (h.val 0 80 _ rfl (by decide))) ⟨rfl, rfl⟩)
    | 2, hT =>
      obtain ⟨rfl, rfl⟩ := Prod.mk.inj (Option.some.inj (show some ((some 82 : Option Nat), (.inl (.pointer (some ⟨gb, 1, none⟩)) : Value ⊕ Nat)) = some (d, x) from hT))
      exact wpOp_of _ rfl rfl (v_f78 (.tmp 81) 1 _ 1 rfl (by decide) (veval_of (h.val 1 81 _ rfl (by decide))) ⟨rfl, rfl⟩)
    | 3, hT =>
      obtain ⟨rfl, rfl⟩ := Prod.mk.inj (Option.some.inj (show some ((some 83 : Option Nat), (.inl (.slice va l.length vc) : Value ⊕ Nat)) = some (d, x) from hT))
      have n1 := h.later 1 13 rfl 19 (by kernel_rfl)
      have q := (h.r.early n1).2.2.2.2
      exact wpOp_of _ rfl rfl (v_load29 (.tmp 82) _ _ _ rfl (veval_of (h.val 2 82 _ rfl (by decide))) ((q.ar.cell 1).trans (F.ge _)) ⟨rfl, rfl⟩)
    | 4, hT =>
      obtain ⟨rfl, rfl⟩ := Prod.mk.inj (Option.some.inj (show some ((some 84 : Option Nat), (.inl (.pointer (some ⟨gb, 0, none⟩)) : Value ⊕ Nat)) = some (d, x) from hT))
      exact wpOp_of _ rfl rfl (v_move (.tmp 0) _ rfl (veval_of ((h.ot 0 (by decide)).trans h0)) ⟨rfl, rfl⟩)
    | 5, hT =>
      obtain ⟨rfl, rfl⟩ := Prod.mk.inj (Option.some.inj (show some ((some 85 : Option Nat), (.inl (.pointer (some ⟨gO, 1, none⟩)) : Value ⊕ Nat)) = some (d, x) from hT))
      exact wpOp_of _ rfl rfl (v_f81 (.tmp 3) 1 _ 1 rfl (by decide) (veval_of ((h.ot 3 (by decide)).trans h3)) ⟨rfl, rfl⟩)
    | 6, hT =>
      obtain ⟨rfl, rfl⟩ := Prod.mk.inj (Option.some.inj (show some ((some 86 : Option Nat), (.inl (.int .i64 A) : Value ⊕ Nat)) = some (d, x) from hT))
      have n1 := h.later 1 13 rfl 19 (by kernel_rfl)
      have q := (h.r.early n1).2.2.2.2
      have hq : w'.cell? ⟨gO, 1, none⟩ = some (.int .i64 A) := (q.fr.arr (fun z => z.elim hgO hgO2) harO).cell 1
      exact wpOp_of _ rfl rfl (v_load3 (.tmp 85) _ _ _ rfl (veval_of (h.val 5 85 _ rfl (by decide))) hq ⟨rfl, rfl⟩)
    | 7, hT =>
      obtain ⟨rfl, rfl⟩ := Prod.mk.inj (Option.some.inj (show some ((some 87 : Option Nat), (.inr 6 : Value ⊕ Nat)) = some (d, x) from hT))
      have n1 := h.later 1 13 rfl 19 (by kernel_rfl)
      have q := (h.r.early n1).2.2.2.2
      refine wpOp_of _ rfl rfl (v_call 50 _ _ rfl _ Try.func50 (by kernel_rfl) (by kernel_rfl) #[.pointer (some ⟨gb, 0, none⟩), .int .i64 A] (by simp [veval_of (h.val 4 84 _ rfl (by decide)), veval_of (h.val 6 86 _ rfl (by decide))]; exact ⟨rfl, rfl⟩) ((hcall w' q.c q.ar).mono ?_))
      rintro e w2 ⟨⟨u, rfl, hu⟩, rfl⟩
      exact ⟨_, rfl, _, rfl, h.r.call n1 _ ⟨u, rfl, hu⟩⟩
    | 8, hT =>
      obtain ⟨rfl, rfl⟩ := Prod.mk.inj (Option.some.inj (show some ((some 88 : Option Nat), (.inl (.pointer (some ⟨gO, 1, none⟩)) : Value ⊕ Nat)) = some (d, x) from hT))
      exact wpOp_of _ rfl rfl (v_f81 (.tmp 3) 1 _ 1 rfl (by decide) (veval_of ((h.ot 3 (by decide)).trans h3)) ⟨rfl, rfl⟩)
    | 9, hT =>
      obtain ⟨rfl, rfl⟩ := Prod.mk.inj (Option.some.inj (show some ((some 89 : Option Nat), (.inl (.int .i64 A) : Value ⊕ Nat)) = some (d, x) from hT))
      have n1 := h.later 1 13 rfl 19 (by kernel_rfl)
      have q := (h.r.early n1).2.2.2.2
      have hq : w'.cell? ⟨gO, 1, none⟩ = some (.int .i64 A) := (q.fr.arr (fun z => z.elim hgO hgO2) harO).cell 1
      exact wpOp_of _ rfl rfl (v_load3 (.tmp 88) _ _ _ rfl (veval_of (h.val 8 88 _ rfl (by decide))) hq ⟨rfl, rfl⟩)
    | 10, hT =>
      obtain ⟨rfl, rfl⟩ := Prod.mk.inj (Option.some.inj (show some ((some 90 : Option Nat), (.inr 5 : Value ⊕ Nat)) = some (d, x) from hT))
      have n1 := h.later 1 13 rfl 19 (by kernel_rfl)
      obtain ⟨u6, e6⟩ := h.has 6 7 rfl 19 (by kernel_rfl)
      obtain ⟨k9, rfl, hk9⟩ := (h.r.early n1).2.2.2.1 u6 e6
      exact wpOp_of _ rfl rfl (v_b10 87 _ 89 _ rfl (h.vale 7 87 6 rfl (by decide) e6) (h.val 9 89 _ rfl (by decide)) ⟨_, rfl, h.r.elem n1 ((⟨⟨1, k9, 0, 0, A, 0⟩, .slice none 0 0, .nil, []⟩ : NE)) (⟨⟨by simp [I64], hk9, by simp [I64], by simp, hA, by simp [I64]⟩, rows_nil P w' 7, rfl⟩) (trivial)⟩)
    | 11, hT =>
      obtain ⟨rfl, rfl⟩ := Prod.mk.inj (Option.some.inj (show some ((some 91 : Option Nat), (.inl (.int .i64 ((l.length : Nat) : Int)) : Value ⊕ Nat)) = some (d, x) from hT))
      exact wpOp_of _ rfl rfl (v_len29 83 _ _ _ rfl rfl (h.val 3 83 _ rfl (by decide)) ⟨rfl, rfl⟩)
    | 12, hT =>
      obtain ⟨rfl, rfl⟩ := Prod.mk.inj (Option.some.inj (show some ((some 92 : Option Nat), (.inr 0 : Value ⊕ Nat)) = some (d, x) from hT))
      have n1 := h.later 1 13 rfl 19 (by kernel_rfl)
      exact wpOp_of _ rfl rfl (v_bz29 rfl ⟨_, rfl, h.r.alloc F n1 (zE_ok P w')⟩)
    | 13, hT =>
      obtain ⟨rfl, rfl⟩ := Prod.mk.inj (Option.some.inj (show some ((some 93 : Option Nat), (.inr 1 : Value ⊕ Nat)) = some (d, x) from hT))
      have n1 := h.not 1 rfl
      obtain ⟨u0, e0⟩ := h.has 0 12 rfl 19 (by kernel_rfl)
      obtain ⟨u5, e5⟩ := h.has 5 10 rfl 19 (by kernel_rfl)
      obtain ⟨g', c', w2, hrun, hR⟩ := h.r.app F n1 e0 e5 hl
      exact wpOp_of _ rfl rfl (v_append (.tmp 83) (.tmp 92) 29 rfl _ _ _ _ (veval_of (h.val 3 83 _ rfl (by decide))) (veval_of (h.vale 12 92 0 rfl (by decide) e0)) hrun ⟨_, rfl, hR⟩)
    | 14, hT =>
      obtain ⟨rfl, rfl⟩ := Prod.mk.inj (Option.some.inj (show some ((some 94 : Option Nat), (.inr 2 : Value ⊕ Nat)) = some (d, x) from hT))
      obtain ⟨u1, e1⟩ := h.has 1 13 rfl 19 (by kernel_rfl)
      obtain ⟨g', c', rfl, hR⟩ := h.r.idx e1
      exact wpOp_of _ rfl rfl (v_idx29 (.tmp 93) (.tmp 91) _ _ _ _ rfl (veval_of (h.vale 13 93 1 rfl (by decide) e1)) (veval_of (h.val 11 91 _ rfl (by decide))) (Nat.lt_succ_self _) ⟨_, rfl, hR⟩)
    | 15, hT =>
      obtain ⟨rfl, rfl⟩ := Prod.mk.inj (Option.some.inj (show some ((none : Option Nat), (.inr 3 : Value ⊕ Nat)) = some (d, x) from hT))
      obtain ⟨u1, e1⟩ := h.has 1 13 rfl 19 (by kernel_rfl)
      obtain ⟨u2, e2⟩ := h.has 2 14 rfl 19 (by kernel_rfl)
      obtain ⟨u5, e5⟩ := h.has 5 10 rfl 19 (by kernel_rfl)
      obtain ⟨g', y, rfl, rfl, ho, hcs, hfz, hR⟩ := h.r.store F e1 e2 e5
      obtain ⟨ka, kc, hk, -, -⟩ := ho.2.1.form
      obtain ⟨yf, yk, yt, yr⟩ := y
      simp only at hk
      subst hk
      exact wpOp_of _ rfl rfl (v_store31 (.tmp 94) (.tmp 90) _ _ _ _ _ _ _ _ _ _ _ rfl rfl (veval_of (h.vale 14 94 2 rfl (by decide) e2)) (veval_of (h.vale 10 90 5 rfl (by decide) e5)) hcs hfz ⟨.bool true, rfl, hR _⟩)
    | 16, hT =>
      obtain ⟨rfl, rfl⟩ := Prod.mk.inj (Option.some.inj (show some ((some 95 : Option Nat), (.inl (.pointer (some ⟨gb, 0, none⟩)) : Value ⊕ Nat)) = some (d, x) from hT))
      exact wpOp_of _ rfl rfl (v_nil (.tmp 80) _ rfl (veval_of (h.val 0 80 _ rfl (by decide))) ⟨rfl, rfl⟩)
    | 17, hT =>
      obtain ⟨rfl, rfl⟩ := Prod.mk.inj (Option.some.inj (show some ((some 96 : Option Nat), (.inl (.pointer (some ⟨gb, 1, none⟩)) : Value ⊕ Nat)) = some (d, x) from hT))
      exact wpOp_of _ rfl rfl (v_f78 (.tmp 95) 1 _ 1 rfl (by decide) (veval_of (h.val 16 95 _ rfl (by decide))) ⟨rfl, rfl⟩)
    | 18, hT =>
      obtain ⟨rfl, rfl⟩ := Prod.mk.inj (Option.some.inj (show some ((none : Option Nat), (.inr 4 : Value ⊕ Nat)) = some (d, x) from hT))
      obtain ⟨u1, e1⟩ := h.has 1 13 rfl 19 (by kernel_rfl)
      obtain ⟨b', m', c', rfl, ⟨u', hu'⟩, hfz, hR⟩ := h.r.hdr F e1
      exact wpOp_of _ rfl rfl (v_store29 (.tmp 96) (.tmp 93) _ _ _ _ _ _ rfl rfl (veval_of (h.val 17 96 _ rfl (by decide))) (veval_of (h.vale 13 93 1 rfl (by decide) e1)) hu' hfz ⟨.bool true, rfl, hR _⟩)
    | i + 19, hT => simp [tq10T] at hT
  · intro vs w' hv hR
    obtain ⟨u1, e1⟩ := hv 1 (by decide)
    obtain ⟨u3, e3⟩ := hv 3 (by decide)
    obtain ⟨u4, e4⟩ := hv 4 (by decide)
    exact hend vs w' (hR.fin e1 e3 e4)
def tq66 : Array Oper := #[{ dst := some 450, op := Go.Op.move (Go.Operand.tmp 0), type := 75, pos := "build.go:179", after := #[], guard := none }, { dst := some 451, op := Go.Op.move (Go.Operand.tmp 0), type := 75, pos := "build.go:179", after := #[], guard := none }, { dst := some 452, op := Go.Op.nilCheck (Go.Operand.tmp 451), type := 0, pos := "build.go:179", after := #[{ on := 1, ground := Go.Ground.data }], guard := none }, { dst := some 453, op := Go.Op.fieldAddr 78 (Go.Operand.tmp 452) 4, type := 0, pos := "build.go:179", after := #[{ on := 2, ground := Go.Ground.data }], guard := none }, { dst := some 454, op := Go.Op.load 76 (Go.Operand.tmp 453), type := 76, pos := "build.go:179", after := #[{ on := 3, ground := Go.Ground.data }], guard := none }, { dst := some 455, op := Go.Op.fieldAddr 81 (Go.Operand.tmp 3) 1, type := 0, pos := "build.go:179", after := #[], guard := none }, { dst := some 456, op := Go.Op.load 3 (Go.Operand.tmp 455), type := 3, pos := "build.go:179", after := #[{ on := 5, ground := Go.Ground.data }], guard := none }, { dst := some 457, op := Go.Op.fieldAddr 81 (Go.Operand.tmp 3) 2, type := 0, pos := "build.go:179", after := #[], guard := none }, { dst := some 458, op := Go.Op.load 3 (Go.Operand.tmp 457), type := 3, pos := "build.go:179", after := #[{ on := 7, ground := Go.Ground.data }], guard := none }, { dst := some 459, op := Go.Op.convert 3 28 (Go.Operand.tmp 458), type := 28, pos := "build.go:179", after := #[{ on := 8, ground := Go.Ground.data }], guard := none }, { dst := some 460, op := Go.Op.build 129 #[(0, Go.Operand.tmp 456), (1, Go.Operand.tmp 459)], type := 129, pos := "build.go:179", after := #[{ on := 6, ground := Go.Ground.data }, { on := 9, ground := Go.Ground.data }], guard := none }, { dst := some 461, op := Go.Op.buildSlice 76 1 #[(0, Go.Operand.tmp 460)], type := 76, pos := "build.go:179", after := #[{ on := 10, ground := Go.Ground.data }], guard := none }, { dst := some 462, op := Go.Op.call { callee := Go.Callee.builtin Go.Builtin.append, args := #[Go.Operand.tmp 454, Go.Operand.tmp 461], argTypes := #[76, 76] }, type := 76, pos := "build.go:179", after := #[{ on := 4, ground := Go.Ground.data }, { on := 11, ground := Go.Ground.data }], guard := none }, { dst := some 463, op := Go.Op.nilCheck (Go.Operand.tmp 450), type := 0, pos := "build.go:179", after := #[{ on := 0, ground := Go.Ground.data }, { on := 0, ground := Go.Ground.phase }, { on := 1, ground := Go.Ground.phase }, { on := 2, ground := Go.Ground.phase }, { on := 3, ground := Go.Ground.phase }, { on := 4, ground := Go.Ground.phase }, { on := 5, ground := Go.Ground.phase }, { on := 6, ground := Go.Ground.phase }, { on := 7, ground := Go.Ground.phase }, { on := 8, ground := Go.Ground.phase }, { on := 9, ground := Go.Ground.phase }, { on := 10, ground := Go.Ground.phase }, { on := 11, ground := Go.Ground.phase }, { on := 12, ground := Go.Ground.phase }], guard := none }, { dst := some 464, op := Go.Op.fieldAddr 78 (Go.Operand.tmp 463) 4, type := 0, pos := "build.go:179", after := #[{ on := 13, ground := Go.Ground.data }, { on := 0, ground := Go.Ground.phase }, { on := 1, ground := Go.Ground.phase }, { on := 2, ground := Go.Ground.phase }, { on := 3, ground := Go.Ground.phase }, { on := 4, ground := Go.Ground.phase }, { on := 5, ground := Go.Ground.phase }, { on := 6, ground := Go.Ground.phase }, { on := 7, ground := Go.Ground.phase }, { on := 8, ground := Go.Ground.phase }, { on := 9, ground := Go.Ground.phase }, { on := 10, ground := Go.Ground.phase }, { on := 11, ground := Go.Ground.phase }, { on := 12, ground := Go.Ground.phase }], guard := none }, { dst := none, op := Go.Op.store 76 (Go.Operand.tmp 464) (Go.Operand.tmp 462), type := 0, pos := "build.go:179", after := #[{ on := 14, ground := Go.Ground.data }, { on := 12, ground := Go.Ground.data }, { on := 12, ground := Go.Ground.chain }, { on := 0, ground := Go.Ground.phase }, { on := 1, ground := Go.Ground.phase }, { on := 2, ground := Go.Ground.phase }, { on := 3, ground := Go.Ground.phase }, { on := 4, ground := Go.Ground.phase }, { on := 5, ground := Go.Ground.phase }, { on := 6, ground := Go.Ground.phase }, { on := 7, ground := Go.Ground.phase }, { on := 8, ground := Go.Ground.phase }, { on := 9, ground := Go.Ground.phase }, { on := 10, ground := Go.Ground.phase }, { on := 11, ground := Go.Ground.phase }, { on := 12, ground := Go.Ground.phase }], guard := none }]
def tq66T (gb gO gE : Nat) (A Bf Cf D : Int) (va : Option Addr) (vc n : Nat) : List (Option Nat × (Value ⊕ Nat)) := [(some 450, .inl (.pointer (some ⟨gb, 0, none⟩))), (some 451, .inl (.pointer (some ⟨gb, 0, none⟩))), (some 452, .inl (.pointer (some ⟨gb, 0, none⟩))), (some 453, .inl (.pointer (some ⟨gb, 10, none⟩))), (some 454, .inl (.slice va n vc)), (some 455, .inl (.pointer (some ⟨gO, 1, none⟩))), (some 456, .inl (.int .i64 A)), (some 457, .inl (.pointer (some ⟨gO, 2, none⟩))), (some 458, .inl (.int .i64 Bf)), (some 459, .inl (.int .u64 (IntKind.u64.wrap Bf))), (some 460, .inr 3), (some 461, .inr 0), (some 462, .inr 1), (some 463, .inl (.pointer (some ⟨gb, 0, none⟩))), (some 464, .inl (.pointer (some ⟨gb, 10, none⟩))), (none, .inr 2)]
theorem tq66_chk : chk tq66 tq66.size = true := by kernel_rfl
set_option maxRecDepth 4000 in
set_option maxHeartbeats 4000000 in
theorem tq66_c {Q : Exit → Act → World → Prop} {a0 : Act} {w : World} {B gb gO gE : Nat} {A Bf Cf D Kf : Int} {hd : Value → List Value} {P : Nat → Prop} {C : World → Value → List (Int × Nat) → Prop} {va : Option Addr} {vc : Nat} {l : List (Int × Nat)} (F : Foc paC 2 129 76 B gb 10 hd (fun _ p => I64 p.1 ∧ p.2 < 2 ^ 64) C) (hz0 : a0.tmps.size = 500) (ar : Arr w.drew gb 78 (hd (.slice va l.length vc))) (hc : C w.drew (.slice va l.length vc) l) (hl : l.length ≤ 1000000)
    (h0 : a0.tmps[0]? = some (.pointer (some ⟨gb, 0, none⟩)))
    (h3 : a0.tmps[3]? = some (.pointer (some ⟨gO, 0, none⟩)))
    (harO : Arr w.drew gO 81 [.int .i64 Kf, .int .i64 A, .int .i64 Bf, .int .i64 Cf, .int .i64 D]) (hgO : gO ≠ gb) (hgO2 : (Value.slice va l.length vc).ownBlock ≠ some gO)
    (hA : I64 A)
    (hend : ∀ vs w', (∃ g c x, (fun _ => True) x ∧ Lat paC 129 gb w.drew hd (fun _ p => I64 p.1 ∧ p.2 < 2 ^ 64) C (.slice va l.length vc) l g c x true w') → Q .normal (lay a0 (Lmx (tq66T gb gO gE A Bf Cf D va vc l.length) vs)) w') :
    (Code.region 66 tq66 true).wp Try.prog Q a0 w := by
  refine wp_region_mx (by rfl) (tq66T gb gO gE A Bf Cf D va vc l.length) [450, 451, 452, 453, 454, 455, 456, 457, 458, 459, 460, 461, 462, 463, 464] [none, none, none, none, none, none, none, none, none, none, some 3, some 0, some 1, none, none, some 2] [11, 12, 15, 10] rfl rfl rfl tq66_chk (by decide) (by decide) (by
    intro d hd
    rw [hz0]
    have : ∀ y ∈ [450, 451, 452, 453, 454, 455, 456, 457, 458, 459, 460, 461, 462, 463, 464], y < 500 := by decide
    exact this _ hd) (R1 paC 129 gb w.drew hd (fun _ p => I64 p.1 ∧ p.2 < 2 ^ 64) (fun _ => True) C (.slice va l.length vc) l (fun _ => True)) (R1.start F ar hc) ?_ ?_
  · intro i d x hT listed vs a w' h
    match i, hT with
    | 0, hT =>
      obtain ⟨rfl, rfl⟩ := Prod.mk.inj (Option.some.inj (show some ((some 450 : Option Nat), (.inl (.pointer (some ⟨gb, 0, none⟩)) : Value ⊕ Nat)) = some (d, x) from hT))
      exact wpOp_of _ rfl rfl (v_move (.tmp 0) _ rfl (veval_of ((h.ot 0 (by decide)).trans h0)) ⟨rfl, rfl⟩)
    | 1, hT =>
      obtain ⟨rfl, rfl⟩ := Prod.mk.inj (Option.some.inj (show some ((some 451 : Option Nat), (.inl (.pointer (some ⟨gb, 0, none⟩)) : Value ⊕ Nat)) = some (d, x) from hT))
      exact wpOp_of _ rfl rfl (v_move (.tmp 0) _ rfl (veval_of ((h.ot 0 (by decide)).trans h0)) ⟨rfl, rfl⟩)
    | 2, hT =>
      obtain ⟨rfl, rfl⟩ := Prod.mk.inj (Option.some.inj (show some ((some 452 : Option Nat), (.inl (.pointer (some ⟨gb, 0, none⟩)) : Value ⊕ Nat)) = some (d, x) from hT))
      exact wpOp_of _ rfl rfl (v_nil (.tmp 451) _ rfl (veval_of (h.val 1 451 _ rfl (by decide))) ⟨rfl, rfl⟩)
    | 3, hT =>
      obtain ⟨rfl, rfl⟩ := Prod.mk.inj (Option.some.inj (show some ((some 453 : Option Nat), (.inl (.pointer (some ⟨gb, 10, none⟩)) : Value ⊕ Nat)) = some (d, x) from hT))
      exact wpOp_of _ rfl rfl (v_f78 (.tmp 452) 4 _ 10 rfl (by decide) (veval_of (h.val 2 452 _ rfl (by decide))) ⟨rfl, rfl⟩)
    | 4, hT =>
      obtain ⟨rfl, rfl⟩ := Prod.mk.inj (Option.some.inj (show some ((some 454 : Option Nat), (.inl (.slice va l.length vc) : Value ⊕ Nat)) = some (d, x) from hT))
      have n1 := h.later 1 12 rfl 16 (by kernel_rfl)
      have q := (h.r.early n1).2.2
      exact wpOp_of _ rfl rfl (v_load76 (.tmp 453) _ _ _ rfl (veval_of (h.val 3 453 _ rfl (by decide))) ((q.ar.cell 10).trans (F.ge _)) ⟨rfl, rfl⟩)
    | 5, hT =>
      obtain ⟨rfl, rfl⟩ := Prod.mk.inj (Option.some.inj (show some ((some 455 : Option Nat), (.inl (.pointer (some ⟨gO, 1, none⟩)) : Value ⊕ Nat)) = some (d, x) from hT))
      exact wpOp_of _ rfl rfl (v_f81 (.tmp 3) 1 _ 1 rfl (by decide) (veval_of ((h.ot 3 (by decide)).trans h3)) ⟨rfl, rfl⟩)
    | 6, hT =>
      obtain ⟨rfl, rfl⟩ := Prod.mk.inj (Option.some.inj (show some ((some 456 : Option Nat), (.inl (.int .i64 A) : Value ⊕ Nat)) = some (d, x) from hT))
      have n1 := h.later 1 12 rfl 16 (by kernel_rfl)
      have q := (h.r.early n1).2.2
      have hq : w'.cell? ⟨gO, 1, none⟩ = some (.int .i64 A) := (q.fr.arr (fun z => z.elim hgO hgO2) harO).cell 1
      exact wpOp_of _ rfl rfl (v_load3 (.tmp 455) _ _ _ rfl (veval_of (h.val 5 455 _ rfl (by decide))) hq ⟨rfl, rfl⟩)
    | 7, hT =>
      obtain ⟨rfl, rfl⟩ := Prod.mk.inj (Option.some.inj (show some ((some 457 : Option Nat), (.inl (.pointer (some ⟨gO, 2, none⟩)) : Value ⊕ Nat)) = some (d, x) from hT))
      exact wpOp_of _ rfl rfl (v_f81 (.tmp 3) 2 _ 2 rfl (by decide) (veval_of ((h.ot 3 (by decide)).trans h3)) ⟨rfl, rfl⟩)
    | 8, hT =>
      obtain ⟨rfl, rfl⟩ := Prod.mk.inj (Option.some.inj (show some ((some 458 : Option Nat), (.inl (.int .i64 Bf) : Value ⊕ Nat)) = some (d, x) from hT))
      have n1 := h.later 1 12 rfl 16 (by kernel_rfl)
      have q := (h.r.early n1).2.2
      have hq : w'.cell? ⟨gO, 2, none⟩ = some (.int .i64 Bf) := (q.fr.arr (fun z => z.elim hgO hgO2) harO).cell 2
      exact wpOp_of _ rfl rfl (v_load3 (.tmp 457) _ _ _ rfl (veval_of (h.val 7 457 _ rfl (by decide))) hq ⟨rfl, rfl⟩)
    | 9, hT =>
      obtain ⟨rfl, rfl⟩ := Prod.mk.inj (Option.some.inj (show some ((some 459 : Option Nat), (.inl (.int .u64 (IntKind.u64.wrap Bf)) : Value ⊕ Nat)) = some (d, x) from hT))
      exact wpOp_of _ rfl rfl (v_conv (.tmp 458) _ rfl (veval_of (h.val 8 458 _ rfl (by decide))) ⟨rfl, rfl⟩)
    | 10, hT =>
      obtain ⟨rfl, rfl⟩ := Prod.mk.inj (Option.some.inj (show some ((some 460 : Option Nat), (.inr 3 : Value ⊕ Nat)) = some (d, x) from hT))
      have n1 := h.later 1 12 rfl 16 (by kernel_rfl)
      obtain ⟨k9, hk9, hk8⟩ := u64_nat Bf
      exact wpOp_of _ rfl rfl (v_b66 456 _ 459 _ rfl (h.val 6 456 _ rfl (by decide)) (h.val 9 459 _ rfl (by decide)) ⟨_, rfl, (by have h9 := h.r.elem n1 ((A, k9) : Int × Nat) ⟨hA, hk8⟩ trivial; simp only [paC, ← hk9] at h9; exact h9)⟩)
    | 11, hT =>
      obtain ⟨rfl, rfl⟩ := Prod.mk.inj (Option.some.inj (show some ((some 461 : Option Nat), (.inr 0 : Value ⊕ Nat)) = some (d, x) from hT))
      have n1 := h.later 1 12 rfl 16 (by kernel_rfl)
      obtain ⟨u3, e3⟩ := h.has 3 10 rfl 16 (by kernel_rfl)
      obtain ⟨y, rfl, hR⟩ := h.r.alloc F n1 e3
      exact wpOp_of _ rfl rfl (v_bs76 460 _ _ rfl (h.vale 10 460 3 rfl (by decide) e3) ⟨_, rfl, hR⟩)
    | 12, hT =>
      obtain ⟨rfl, rfl⟩ := Prod.mk.inj (Option.some.inj (show some ((some 462 : Option Nat), (.inr 1 : Value ⊕ Nat)) = some (d, x) from hT))
      have n1 := h.not 1 rfl
      obtain ⟨u0, e0⟩ := h.has 0 11 rfl 16 (by kernel_rfl)
      obtain ⟨g', c', w2, hrun, hR⟩ := h.r.app F n1 e0 hl
      exact wpOp_of _ rfl rfl (v_append (.tmp 454) (.tmp 461) 76 rfl _ _ _ _ (veval_of (h.val 4 454 _ rfl (by decide))) (veval_of (h.vale 11 461 0 rfl (by decide) e0)) hrun ⟨_, rfl, hR⟩)
    | 13, hT =>
      obtain ⟨rfl, rfl⟩ := Prod.mk.inj (Option.some.inj (show some ((some 463 : Option Nat), (.inl (.pointer (some ⟨gb, 0, none⟩)) : Value ⊕ Nat)) = some (d, x) from hT))
      exact wpOp_of _ rfl rfl (v_nil (.tmp 450) _ rfl (veval_of (h.val 0 450 _ rfl (by decide))) ⟨rfl, rfl⟩)
    | 14, hT =>
      obtain ⟨rfl, rfl⟩ := Prod.mk.inj (Option.some.inj (show some ((some 464 : Option Nat), (.inl (.pointer (some ⟨gb, 10, none⟩)) : Value ⊕ Nat)) = some (d, x) from hT))
      exact wpOp_of _ rfl rfl (v_f78 (.tmp 463) 4 _ 10 rfl (by decide) (veval_of (h.val 13 463 _ rfl (by decide))) ⟨rfl, rfl⟩)
    | 15, hT =>
      obtain ⟨rfl, rfl⟩ := Prod.mk.inj (Option.some.inj (show some ((none : Option Nat), (.inr 2 : Value ⊕ Nat)) = some (d, x) from hT))
      obtain ⟨u1, e1⟩ := h.has 1 12 rfl 16 (by kernel_rfl)
      obtain ⟨b', m', c', rfl, ⟨u', hu'⟩, hfz, hR⟩ := h.r.hdr F e1
      exact wpOp_of _ rfl rfl (v_store76 (.tmp 464) (.tmp 462) _ _ _ _ _ _ rfl rfl (veval_of (h.val 14 464 _ rfl (by decide))) (veval_of (h.vale 12 462 1 rfl (by decide) e1)) hu' hfz ⟨.bool true, rfl, hR _⟩)
    | i + 16, hT => simp [tq66T] at hT
  · intro vs w' hv hR
    obtain ⟨u1, e1⟩ := hv 1 (by decide)
    obtain ⟨u4, e4⟩ := hv 2 (by decide)
    exact hend vs w' (hR.fin e1 e4)
def tq70 : Array Oper := #[{ dst := some 476, op := Go.Op.move (Go.Operand.tmp 0), type := 75, pos := "build.go:183", after := #[], guard := none }, { dst := some 477, op := Go.Op.move (Go.Operand.tmp 0), type := 75, pos := "build.go:183", after := #[], guard := none }, { dst := some 478, op := Go.Op.nilCheck (Go.Operand.tmp 477), type := 0, pos := "build.go:183", after := #[{ on := 1, ground := Go.Ground.data }], guard := none }, { dst := some 479, op := Go.Op.fieldAddr 78 (Go.Operand.tmp 478) 5, type := 0, pos := "build.go:183", after := #[{ on := 2, ground := Go.Ground.data }], guard := none }, { dst := some 480, op := Go.Op.load 76 (Go.Operand.tmp 479), type := 76, pos := "build.go:183", after := #[{ on := 3, ground := Go.Ground.data }], guard := none }, { dst := some 481, op := Go.Op.fieldAddr 81 (Go.Operand.tmp 3) 1, type := 0, pos := "build.go:183", after := #[], guard := none }, { dst := some 482, op := Go.Op.load 3 (Go.Operand.tmp 481), type := 3, pos := "build.go:183", after := #[{ on := 5, ground := Go.Ground.data }], guard := none }, { dst := some 483, op := Go.Op.fieldAddr 81 (Go.Operand.tmp 3) 2, type := 0, pos := "build.go:183", after := #[], guard := none }, { dst := some 484, op := Go.Op.load 3 (Go.Operand.tmp 483), type := 3, pos := "build.go:183", after := #[{ on := 7, ground := Go.Ground.data }], guard := none }, { dst := some 485, op := Go.Op.convert 3 28 (Go.Operand.tmp 484), type := 28, pos := "build.go:183", after := #[{ on := 8, ground := Go.Ground.data }], guard := none }, { dst := some 486, op := Go.Op.build 129 #[(0, Go.Operand.tmp 482), (1, Go.Operand.tmp 485)], type := 129, pos := "build.go:183", after := #[{ on := 6, ground := Go.Ground.data }, { on := 9, ground := Go.Ground.data }], guard := none }, { dst := some 487, op := Go.Op.buildSlice 76 1 #[(0, Go.Operand.tmp 486)], type := 76, pos := "build.go:183", after := #[{ on := 10, ground := Go.Ground.data }], guard := none }, { dst := some 488, op := Go.Op.call { callee := Go.Callee.builtin Go.Builtin.append, args := #[Go.Operand.tmp 480, Go.Operand.tmp 487], argTypes := #[76, 76] }, type := 76, pos := "build.go:183", after := #[{ on := 4, ground := Go.Ground.data }, { on := 11, ground := Go.Ground.data }], guard := none }, { dst := some 489, op := Go.Op.nilCheck (Go.Operand.tmp 476), type := 0, pos := "build.go:183", after := #[{ on := 0, ground := Go.Ground.data }, { on := 0, ground := Go.Ground.phase }, { on := 1, ground := Go.Ground.phase }, { on := 2, ground := Go.Ground.phase }, { on := 3, ground := Go.Ground.phase }, { on := 4, ground := Go.Ground.phase }, { on := 5, ground := Go.Ground.phase }, { on := 6, ground := Go.Ground.phase }, { on := 7, ground := Go.Ground.phase }, { on := 8, ground := Go.Ground.phase }, { on := 9, ground := Go.Ground.phase }, { on := 10, ground := Go.Ground.phase }, { on := 11, ground := Go.Ground.phase }, { on := 12, ground := Go.Ground.phase }], guard := none }, { dst := some 490, op := Go.Op.fieldAddr 78 (Go.Operand.tmp 489) 5, type := 0, pos := "build.go:183", after := #[{ on := 13, ground := Go.Ground.data }, { on := 0, ground := Go.Ground.phase }, { on := 1, ground := Go.Ground.phase }, { on := 2, ground := Go.Ground.phase }, { on := 3, ground := Go.Ground.phase }, { on := 4, ground := Go.Ground.phase }, { on := 5, ground := Go.Ground.phase }, { on := 6, ground := Go.Ground.phase }, { on := 7, ground := Go.Ground.phase }, { on := 8, ground := Go.Ground.phase }, { on := 9, ground := Go.Ground.phase }, { on := 10, ground := Go.Ground.phase }, { on := 11, ground := Go.Ground.phase }, { on := 12, ground := Go.Ground.phase }], guard := none }, { dst := none, op := Go.Op.store 76 (Go.Operand.tmp 490) (Go.Operand.tmp 488), type := 0, pos := "build.go:183", after := #[{ on := 14, ground := Go.Ground.data }, { on := 12, ground := Go.Ground.data }, { on := 12, ground := Go.Ground.chain }, { on := 0, ground := Go.Ground.phase }, { on := 1, ground := Go.Ground.phase }, { on := 2, ground := Go.Ground.phase }, { on := 3, ground := Go.Ground.phase }, { on := 4, ground := Go.Ground.phase }, { on := 5, ground := Go.Ground.phase }, { on := 6, ground := Go.Ground.phase }, { on := 7, ground := Go.Ground.phase }, { on := 8, ground := Go.Ground.phase }, { on := 9, ground := Go.Ground.phase }, { on := 10, ground := Go.Ground.phase }, { on := 11, ground := Go.Ground.phase }, { on := 12, ground := Go.Ground.phase }], guard := none }]
def tq70T (gb gO gE : Nat) (A Bf Cf D : Int) (va : Option Addr) (vc n : Nat) : List (Option Nat × (Value ⊕ Nat)) := [(some 476, .inl (.pointer (some ⟨gb, 0, none⟩))), (some 477, .inl (.pointer (some ⟨gb, 0, none⟩))), (some 478, .inl (.pointer (some ⟨gb, 0, none⟩))), (some 479, .inl (.pointer (some ⟨gb, 11, none⟩))), (some 480, .inl (.slice va n vc)), (some 481, .inl (.pointer (some ⟨gO, 1, none⟩))), (some 482, .inl (.int .i64 A)), (some 483, .inl (.pointer (some ⟨gO, 2, none⟩))), (some 484, .inl (.int .i64 Bf)), (some 485, .inl (.int .u64 (IntKind.u64.wrap Bf))), (some 486, .inr 3), (some 487, .inr 0), (some 488, .inr 1), (some 489, .inl (.pointer (some ⟨gb, 0, none⟩))), (some 490, .inl (.pointer (some ⟨gb, 11, none⟩))), (none, .inr 2)]
theorem tq70_chk : chk tq70 tq70.size = true := by kernel_rfl
set_option maxRecDepth 4000 in
set_option maxHeartbeats 4000000 in
theorem tq70_c {Q : Exit → Act → World → Prop} {a0 : Act} {w : World} {B gb gO gE : Nat} {A Bf Cf D Kf : Int} {hd : Value → List Value} {P : Nat → Prop} {C : World → Value → List (Int × Nat) → Prop} {va : Option Addr} {vc : Nat} {l : List (Int × Nat)} (F : Foc paC 2 129 76 B gb 11 hd (fun _ p => I64 p.1 ∧ p.2 < 2 ^ 64) C) (hz0 : a0.tmps.size = 500) (ar : Arr w.drew gb 78 (hd (.slice va l.length vc))) (hc : C w.drew (.slice va l.length vc) l) (hl : l.length ≤ 1000000)
    (h0 : a0.tmps[0]? = some (.pointer (some ⟨gb, 0, none⟩)))
    (h3 : a0.tmps[3]? = some (.pointer (some ⟨gO, 0, none⟩)))
    (harO : Arr w.drew gO 81 [.int .i64 Kf, .int .i64 A, .int .i64 Bf, .int .i64 Cf, .int .i64 D]) (hgO : gO ≠ gb) (hgO2 : (Value.slice va l.length vc).ownBlock ≠ some gO)
    (hA : I64 A)
    (hend : ∀ vs w', (∃ g c x, (fun _ => True) x ∧ Lat paC 129 gb w.drew hd (fun _ p => I64 p.1 ∧ p.2 < 2 ^ 64) C (.slice va l.length vc) l g c x true w') → Q .normal (lay a0 (Lmx (tq70T gb gO gE A Bf Cf D va vc l.length) vs)) w') :
    (Code.region 70 tq70 true).wp Try.prog Q a0 w := by
  refine wp_region_mx (by rfl) (tq70T gb gO gE A Bf Cf D va vc l.length) [476, 477, 478, 479, 480, 481, 482, 483, 484, 485, 486, 487, 488, 489, 490] [none, none, none, none, none, none, none, none, none, none, some 3, some 0, some 1, none, none, some 2] [11, 12, 15, 10] rfl rfl rfl tq70_chk (by decide) (by decide) (by
    intro d hd
    rw [hz0]
    have : ∀ y ∈ [476, 477, 478, 479, 480, 481, 482, 483, 484, 485, 486, 487, 488, 489, 490], y < 500 := by decide
    exact this _ hd) (R1 paC 129 gb w.drew hd (fun _ p => I64 p.1 ∧ p.2 < 2 ^ 64) (fun _ => True) C (.slice va l.length vc) l (fun _ => True)) (R1.start F ar hc) ?_ ?_
  · intro i d x hT listed vs a w' h
    match i, hT with
    | 0, hT =>
      obtain ⟨rfl, rfl⟩ := Prod.mk.inj (Option.some.inj (show some ((some 476 : Option Nat), (.inl (.pointer (some ⟨gb, 0, none⟩)) : Value ⊕ Nat)) = some (d, x) from hT))
      exact wpOp_of _ rfl rfl (v_move (.tmp 0) _ rfl (veval_of ((h.ot 0 (by decide)).trans h0)) ⟨rfl, rfl⟩)
    | 1, hT =>
      obtain ⟨rfl, rfl⟩ := Prod.mk.inj (Option.some.inj (show some ((some 477 : Option Nat), (.inl (.pointer (some ⟨gb, 0, none⟩)) : Value ⊕ Nat)) = some (d, x) from hT))
      exact wpOp_of _ rfl rfl (v_move (.tmp 0) _ rfl (veval_of ((h.ot 0 (by decide)).trans h0)) ⟨rfl, rfl⟩)
    | 2, hT =>
      obtain ⟨rfl, rfl⟩ := Prod.mk.inj (Option.some.inj (show some ((some 478 : Option Nat), (.inl (.pointer (some ⟨gb, 0, none⟩)) : Value ⊕ Nat)) = some (d, x) from hT))
      exact wpOp_of _ rfl rfl (v_nil (.tmp 477) _ rfl (veval_of (h.val 1 477 _ rfl (by decide))) ⟨rfl, rfl⟩)
    | 3, hT =>
      obtain ⟨rfl, rfl⟩ := Prod.mk.inj (Option.some.inj (show some ((some 479 : Option Nat), (.inl (.pointer (some ⟨gb, 11, none⟩)) : Value ⊕ Nat)) = some (d, x) from hT))
      exact wpOp_of _ rfl rfl (v_f78 (.tmp 478) 5 _ 11 rfl (by decide) (veval_of (h.val 2 478 _ rfl (by decide))) ⟨rfl, rfl⟩)
    | 4, hT =>
      obtain ⟨rfl, rfl⟩ := Prod.mk.inj (Option.some.inj (show some ((some 480 : Option Nat), (.inl (.slice va l.length vc) : Value ⊕ Nat)) = some (d, x) from hT))
      have n1 := h.later 1 12 rfl 16 (by kernel_rfl)
      have q := (h.r.early n1).2.2
      exact wpOp_of _ rfl rfl (v_load76 (.tmp 479) _ _ _ rfl (veval_of (h.val 3 479 _ rfl (by decide))) ((q.ar.cell 11).trans (F.ge _)) ⟨rfl, rfl⟩)
    | 5, hT =>
      obtain ⟨rfl, rfl⟩ := Prod.mk.inj (Option.some.inj (show some ((some 481 : Option Nat), (.inl (.pointer (some ⟨gO, 1, none⟩)) : Value ⊕ Nat)) = some (d, x) from hT))
      exact wpOp_of _ rfl rfl (v_f81 (.tmp 3) 1 _ 1 rfl (by decide) (veval_of ((h.ot 3 (by decide)).trans h3)) ⟨rfl, rfl⟩)
    | 6, hT =>
      obtain ⟨rfl, rfl⟩ := Prod.mk.inj (Option.some.inj (show some ((some 482 : Option Nat), (.inl (.int .i64 A) : Value ⊕ Nat)) = some (d, x) from hT))
      have n1 := h.later 1 12 rfl 16 (by kernel_rfl)
      have q := (h.r.early n1).2.2
      have hq : w'.cell? ⟨gO, 1, none⟩ = some (.int .i64 A) := (q.fr.arr (fun z => z.elim hgO hgO2) harO).cell 1
      exact wpOp_of _ rfl rfl (v_load3 (.tmp 481) _ _ _ rfl (veval_of (h.val 5 481 _ rfl (by decide))) hq ⟨rfl, rfl⟩)
    | 7, hT =>
      obtain ⟨rfl, rfl⟩ := Prod.mk.inj (Option.some.inj (show some ((some 483 : Option Nat), (.inl (.pointer (some ⟨gO, 2, none⟩)) : Value ⊕ Nat)) = some (d, x) from hT))
      exact wpOp_of _ rfl rfl (v_f81 (.tmp 3) 2 _ 2 rfl (by decide) (veval_of ((h.ot 3 (by decide)).trans h3)) ⟨rfl, rfl⟩)
    | 8, hT =>
      obtain ⟨rfl, rfl⟩ := Prod.mk.inj (Option.some.inj (show some ((some 484 : Option Nat), (.inl (.int .i64 Bf) : Value ⊕ Nat)) = some (d, x) from hT))
      have n1 := h.later 1 12 rfl 16 (by kernel_rfl)
      have q := (h.r.early n1).2.2
      have hq : w'.cell? ⟨gO, 2, none⟩ = some (.int .i64 Bf) := (q.fr.arr (fun z => z.elim hgO hgO2) harO).cell 2
      exact wpOp_of _ rfl rfl (v_load3 (.tmp 483) _ _ _ rfl (veval_of (h.val 7 483 _ rfl (by decide))) hq ⟨rfl, rfl⟩)
    | 9, hT =>
      obtain ⟨rfl, rfl⟩ := Prod.mk.inj (Option.some.inj (show some ((some 485 : Option Nat), (.inl (.int .u64 (IntKind.u64.wrap Bf)) : Value ⊕ Nat)) = some (d, x) from hT))
      exact wpOp_of _ rfl rfl (v_conv (.tmp 484) _ rfl (veval_of (h.val 8 484 _ rfl (by decide))) ⟨rfl, rfl⟩)
    | 10, hT =>
      obtain ⟨rfl, rfl⟩ := Prod.mk.inj (Option.some.inj (show some ((some 486 : Option Nat), (.inr 3 : Value ⊕ Nat)) = some (d, x) from hT))
      have n1 := h.later 1 12 rfl 16 (by kernel_rfl)
      obtain ⟨k9, hk9, hk8⟩ := u64_nat Bf
      exact wpOp_of _ rfl rfl (v_b66 482 _ 485 _ rfl (h.val 6 482 _ rfl (by decide)) (h.val 9 485 _ rfl (by decide)) ⟨_, rfl, (by have h9 := h.r.elem n1 ((A, k9) : Int × Nat) ⟨hA, hk8⟩ trivial; simp only [paC, ← hk9] at h9; exact h9)⟩)
    | 11, hT =>
      obtain ⟨rfl, rfl⟩ := Prod.mk.inj (Option.some.inj (show some ((some 487 : Option Nat), (.inr 0 : Value ⊕ Nat)) = some (d, x) from hT))
      have n1 := h.later 1 12 rfl 16 (by kernel_rfl)
      obtain ⟨u3, e3⟩ := h.has 3 10 rfl 16 (by kernel_rfl)
      obtain ⟨y, rfl, hR⟩ := h.r.alloc F n1 e3
      exact wpOp_of _ rfl rfl (v_bs76 486 _ _ rfl (h.vale 10 486 3 rfl (by decide) e3) ⟨_, rfl, hR⟩)
    | 12, hT =>
      obtain ⟨rfl, rfl⟩ := Prod.mk.inj (Option.some.inj (show some ((some 488 : Option Nat), (.inr 1 : Value ⊕ Nat)) = some (d, x) from hT))
      have n1 := h.not 1 rfl
      obtain ⟨u0, e0⟩ := h.has 0 11 rfl 16 (by kernel_rfl)
      obtain ⟨g', c', w2, hrun, hR⟩ := h.r.app F n1 e0 hl
      exact wpOp_of _ rfl rfl (v_append (.tmp 480) (.tmp 487) 76 rfl _ _ _ _ (veval_of (h.val 4 480 _ rfl (by decide))) (veval_of (h.vale 11 487 0 rfl (by decide) e0)) hrun ⟨_, rfl, hR⟩)
    | 13, hT =>
      obtain ⟨rfl, rfl⟩ := Prod.mk.inj (Option.some.inj (show some ((some 489 : Option Nat), (.inl (.pointer (some ⟨gb, 0, none⟩)) : Value ⊕ Nat)) = some (d, x) from hT))
      exact wpOp_of _ rfl rfl (v_nil (.tmp 476) _ rfl (veval_of (h.val 0 476 _ rfl (by decide))) ⟨rfl, rfl⟩)
    | 14, hT =>
      obtain ⟨rfl, rfl⟩ := Prod.mk.inj (Option.some.inj (show some ((some 490 : Option Nat), (.inl (.pointer (some ⟨gb, 11, none⟩)) : Value ⊕ Nat)) = some (d, x) from hT))
      exact wpOp_of _ rfl rfl (v_f78 (.tmp 489) 5 _ 11 rfl (by decide) (veval_of (h.val 13 489 _ rfl (by decide))) ⟨rfl, rfl⟩)
    | 15, hT =>
      obtain ⟨rfl, rfl⟩ := Prod.mk.inj (Option.some.inj (show some ((none : Option Nat), (.inr 2 : Value ⊕ Nat)) = some (d, x) from hT))
      obtain ⟨u1, e1⟩ := h.has 1 12 rfl 16 (by kernel_rfl)
      obtain ⟨b', m', c', rfl, ⟨u', hu'⟩, hfz, hR⟩ := h.r.hdr F e1
      exact wpOp_of _ rfl rfl (v_store76 (.tmp 490) (.tmp 488) _ _ _ _ _ _ rfl rfl (veval_of (h.val 14 490 _ rfl (by decide))) (veval_of (h.vale 12 488 1 rfl (by decide) e1)) hu' hfz ⟨.bool true, rfl, hR _⟩)
    | i + 16, hT => simp [tq70T] at hT
  · intro vs w' hv hR
    obtain ⟨u1, e1⟩ := hv 1 (by decide)
    obtain ⟨u4, e4⟩ := hv 2 (by decide)
    exact hend vs w' (hR.fin e1 e4)
end Go.Proofs.Qxb6500772a
