/- blastlaw: regions of step that append. -/
import Derived.Test.Qxb6500772aGj
import Derived.Test.Qxb6500772aGf
namespace Go.Proofs.Qxb6500772a
open Go Go.RowKit Go.Qm
set_option linter.unusedVariables false
set_option linter.unusedSimpArgs false
def tq41 : Array Oper := #[{ dst := some 252, op := Go.Op.move (Go.Operand.tmp 0), type := 75, pos := "build.go:147", after := #[], guard := none }, { dst := some 253, op := Go.Op.nilCheck (Go.Operand.tmp 252), type := 0, pos := "build.go:147", after := #[{ on := 0, ground := Go.Ground.data }], guard := none }, { dst := some 254, op := Go.Op.fieldAddr 78 (Go.Operand.tmp 253) 2, type := 0, pos := "build.go:147", after := #[{ on := 1, ground := Go.Ground.data }], guard := none }, { dst := some 255, op := Go.Op.load 25 (Go.Operand.tmp 254), type := 25, pos := "build.go:147", after := #[{ on := 2, ground := Go.Ground.data }], guard := none }, { dst := some 256, op := Go.Op.fieldAddr 81 (Go.Operand.tmp 3) 1, type := 0, pos := "build.go:147", after := #[], guard := none }, { dst := some 257, op := Go.Op.load 3 (Go.Operand.tmp 256), type := 3, pos := "build.go:147", after := #[{ on := 4, ground := Go.Ground.data }], guard := none }, { dst := some 258, op := Go.Op.move (Go.Operand.tmp 0), type := 75, pos := "build.go:147", after := #[], guard := none }, { dst := some 259, op := Go.Op.call { callee := Go.Callee.value (Go.Operand.func 51), args := #[Go.Operand.tmp 258, Go.Operand.const (Go.Value.int Go.IntKind.i64 1)], argTypes := #[75, 3] }, type := 29, pos := "build.go:147", after := #[{ on := 6, ground := Go.Ground.data }], guard := none }, { dst := some 260, op := Go.Op.build 109 #[(0, Go.Operand.const (Go.Value.int Go.IntKind.i64 0)), (1, Go.Operand.tmp 257), (5, Go.Operand.tmp 259)], type := 109, pos := "build.go:147", after := #[{ on := 5, ground := Go.Ground.data }, { on := 7, ground := Go.Ground.data }], guard := none }, { dst := some 261, op := Go.Op.call { callee := Go.Callee.builtin Go.Builtin.len, args := #[Go.Operand.tmp 255], argTypes := #[25] }, type := 3, pos := "build.go:147", after := #[{ on := 3, ground := Go.Ground.data }], guard := none }, { dst := some 262, op := Go.Op.buildSlice 25 1 #[(0, Go.Operand.const (Go.Value.agg #[Go.Value.int Go.IntKind.i64 0, Go.Value.int Go.IntKind.i64 0, Go.Value.int Go.IntKind.i64 0, Go.Value.int Go.IntKind.i64 0, Go.Value.int Go.IntKind.i64 0, Go.Value.slice none 0 0, Go.Value.slice none 0 0, Go.Value.slice none 0 0]))], type := 25, pos := "build.go:147", after := #[], guard := none }, { dst := some 263, op := Go.Op.call { callee := Go.Callee.builtin Go.Builtin.append, args := #[Go.Operand.tmp 255, Go.Operand.tmp 262], argTypes := #[25, 25] }, type := 25, pos := "build.go:147", after := #[{ on := 3, ground := Go.Ground.data }, { on := 10, ground := Go.Ground.data }, { on := 7, ground := Go.Ground.chain }, { on := 0, ground := Go.Ground.phase }, { on := 1, ground := Go.Ground.phase }, { on := 2, ground := Go.Ground.phase }, { on := 3, ground := Go.Ground.phase }, { on := 4, ground := Go.Ground.phase }, { on := 5, ground := Go.Ground.phase }, { on := 6, ground := Go.Ground.phase }, { on := 7, ground := Go.Ground.phase }, { on := 8, ground := Go.Ground.phase }, { on := 9, ground := Go.Ground.phase }, { on := 10, ground := Go.Ground.phase }], guard := none }, { dst := some 264, op := Go.Op.indexAddr 25 (Go.Operand.tmp 263) (Go.Operand.tmp 261), type := 0, pos := "build.go:147", after := #[{ on := 11, ground := Go.Ground.data }, { on := 9, ground := Go.Ground.data }, { on := 0, ground := Go.Ground.phase }, { on := 1, ground := Go.Ground.phase }, { on := 2, ground := Go.Ground.phase }, { on := 3, ground := Go.Ground.phase }, { on := 4, ground := Go.Ground.phase }, { on := 5, ground := Go.Ground.phase }, { on := 6, ground := Go.Ground.phase }, { on := 7, ground := Go.Ground.phase }, { on := 8, ground := Go.Ground.phase }, { on := 9, ground := Go.Ground.phase }, { on := 10, ground := Go.Ground.phase }, { on := 11, ground := Go.Ground.phase }, { on := 16, ground := Go.Ground.gcOnly Go.Departure.appendInPlace }], guard := none }, { dst := none, op := Go.Op.store 109 (Go.Operand.tmp 264) (Go.Operand.tmp 260), type := 0, pos := "build.go:147", after := #[{ on := 12, ground := Go.Ground.data }, { on := 8, ground := Go.Ground.data }, { on := 11, ground := Go.Ground.chain }, { on := 0, ground := Go.Ground.phase }, { on := 1, ground := Go.Ground.phase }, { on := 2, ground := Go.Ground.phase }, { on := 3, ground := Go.Ground.phase }, { on := 4, ground := Go.Ground.phase }, { on := 5, ground := Go.Ground.phase }, { on := 6, ground := Go.Ground.phase }, { on := 7, ground := Go.Ground.phase }, { on := 8, ground := Go.Ground.phase }, { on := 9, ground := Go.Ground.phase }, { on := 10, ground := Go.Ground.phase }, { on := 11, ground := Go.Ground.phase }, { on := 16, ground := Go.Ground.gcOnly Go.Departure.appendInPlace }], guard := none }, { dst := some 265, op := Go.Op.nilCheck (Go.Operand.tmp 252), type := 0, pos := "build.go:147", after := #[{ on := 0, ground := Go.Ground.data }, { on := 0, ground := Go.Ground.phase }, { on := 1, ground := Go.Ground.phase }, { on := 2, ground := Go.Ground.phase }, { on := 3, ground := Go.Ground.phase }, { on := 4, ground := Go.Ground.phase }, { on := 5, ground := Go.Ground.phase }, { on := 6, ground := Go.Ground.phase }, { on := 7, ground := Go.Ground.phase }, { on := 8, ground := Go.Ground.phase }, { on := 9, ground := Go.Ground.phase }, { on := 10, ground := Go.Ground.phase }, { on := 11, ground := Go.Ground.phase }, { on := 12, ground := Go.Ground.textOnly Go.Departure.appendInPlace }, { on := 13, ground := Go.Ground.textOnly Go.Departure.appendInPlace }], guard := none }, { dst := some 266, op := Go.Op.fieldAddr 78 (Go.Operand.tmp 265) 2, type := 0, pos := "build.go:147", after := #[{ on := 14, ground := Go.Ground.data }, { on := 0, ground := Go.Ground.phase }, { on := 1, ground := Go.Ground.phase }, { on := 2, ground := Go.Ground.phase }, { on := 3, ground := Go.Ground.phase }, { on := 4, ground := Go.Ground.phase }, { on := 5, ground := Go.Ground.phase }, { on := 6, ground := Go.Ground.phase }, { on := 7, ground := Go.Ground.phase }, { on := 8, ground := Go.Ground.phase }, { on := 9, ground := Go.Ground.phase }, { on := 10, ground := Go.Ground.phase }, { on := 11, ground := Go.Ground.phase }, { on := 12, ground := Go.Ground.textOnly Go.Departure.appendInPlace }, { on := 13, ground := Go.Ground.textOnly Go.Departure.appendInPlace }], guard := none }, { dst := none, op := Go.Op.store 25 (Go.Operand.tmp 266) (Go.Operand.tmp 263), type := 0, pos := "build.go:147", after := #[{ on := 15, ground := Go.Ground.data }, { on := 11, ground := Go.Ground.data }, { on := 11, ground := Go.Ground.chain }, { on := 13, ground := Go.Ground.textOnly Go.Departure.appendInPlace }, { on := 0, ground := Go.Ground.phase }, { on := 1, ground := Go.Ground.phase }, { on := 2, ground := Go.Ground.phase }, { on := 3, ground := Go.Ground.phase }, { on := 4, ground := Go.Ground.phase }, { on := 5, ground := Go.Ground.phase }, { on := 6, ground := Go.Ground.phase }, { on := 7, ground := Go.Ground.phase }, { on := 8, ground := Go.Ground.phase }, { on := 9, ground := Go.Ground.phase }, { on := 10, ground := Go.Ground.phase }, { on := 11, ground := Go.Ground.phase }, { on := 12, ground := Go.Ground.textOnly Go.Departure.appendInPlace }, { on := 13, ground := Go.Ground.textOnly Go.Departure.appendInPlace }], guard := none }]
def tq41T (gb gO : Nat) (A Bf Cf D : Int) (va : Option Addr) (vc n : Nat) : List (Option Nat × (Value ⊕ Nat)) := [(some 252, .inl (.pointer (some ⟨gb, 0, none⟩))), (some 253, .inl (.pointer (some ⟨gb, 0, none⟩))), (some 254, .inl (.pointer (some ⟨gb, 2, none⟩))), (some 255, .inl (.slice va n vc)), (some 256, .inl (.pointer (some ⟨gO, 1, none⟩))), (some 257, .inl (.int .i64 A)), (some 258, .inl (.pointer (some ⟨gb, 0, none⟩))), (some 259, .inr 6), (some 260, .inr 5), (some 261, .inl (.int .i64 ((n : Nat) : Int))), (some 262, .inr 0), (some 263, .inr 1), (some 264, .inr 2), (none, .inr 3), (some 265, .inl (.pointer (some ⟨gb, 0, none⟩))), (some 266, .inl (.pointer (some ⟨gb, 2, none⟩))), (none, .inr 4)]
theorem tq41_chk : chk tq41 tq41.size = true := by kernel_rfl
set_option maxRecDepth 4000 in
set_option maxHeartbeats 4000000 in
theorem tq41_c {Q : Exit → Act → World → Prop} {a0 : Act} {w : World} {B gb gO : Nat} {A Bf Cf D Kf : Int} {hd : Value → List Value} {P : Nat → Prop} {C : World → Value → List NS → Prop} {va : Option Addr} {vc : Nat} {l : List NS} (G : (Value → List Value) → (Nat → Prop) → (World → Value → List NS → Prop) → Prop) (F : Foc nsC 8 109 25 B gb 2 hd (fun w x => NSok P w x) C) (hz0 : a0.tmps.size = 500) (ar : Arr w.drew gb 78 (hd (.slice va l.length vc))) (hc : C w.drew (.slice va l.length vc) l) (hl : l.length ≤ 1000000)
    (h0 : a0.tmps[0]? = some (.pointer (some ⟨gb, 0, none⟩)))
    (h3 : a0.tmps[3]? = some (.pointer (some ⟨gO, 0, none⟩)))
    (harO : Arr w.drew gO 81 [.int .i64 Kf, .int .i64 A, .int .i64 Bf, .int .i64 Cf, .int .i64 D]) (hgO : gO ≠ gb) (hgO2 : (Value.slice va l.length vc).ownBlock ≠ some gO)
    (hA : I64 A) (hB : I64 Bf)
    (hcall : ∀ w', C w' (.slice va l.length vc) l → Arr w' gb 78 (hd (.slice va l.length vc)) → Calls Try.prog 51 #[.pointer (some ⟨gb, 0, none⟩), .int .i64 1] w' (PopK B gb (.slice va l.length vc) l G w'))
    (hend : ∀ vs w', (∃ hd1 P1 C1 g c x, G hd1 P1 C1 ∧ nsz x = 1 ∧ Lat nsC 109 gb w.drew hd1 (fun w x => NSok P1 w x) C1 (.slice va l.length vc) l g c x true w') → Q .normal (lay a0 (Lmx (tq41T gb gO A Bf Cf D va vc l.length) vs)) w') :
    (Code.region 41 tq41 true).wp Try.prog Q a0 w := by
  refine wp_region_mx (by rfl) (tq41T gb gO A Bf Cf D va vc l.length) [252, 253, 254, 255, 256, 257, 258, 259, 260, 261, 262, 263, 264, 265, 266] [none, none, none, none, none, none, none, some 6, some 5, none, some 0, some 1, some 2, some 3, none, none, some 4] [10, 11, 12, 13, 16, 8, 7] rfl rfl rfl tq41_chk (by decide) (by decide) (by
    intro d hd
    rw [hz0]
    have : ∀ y ∈ [252, 253, 254, 255, 256, 257, 258, 259, 260, 261, 262, 263, 264, 265, 266], y < 500 := by decide
    exact this _ hd) (R3 B gb w.drew hd P C (.slice va l.length vc) l G) (R3.start F ar hc) ?_ ?_
  · intro i d x hT listed vs a w' h
    match i, hT with
    | 0, hT =>
      obtain ⟨rfl, rfl⟩ := Prod.mk.inj (Option.some.inj (show some ((some 252 : Option Nat), (.inl (.pointer (some ⟨gb, 0, none⟩)) : Value ⊕ Nat)) = some (d, x) from hT))
      exact wpOp_of _ rfl rfl (v_move (.tmp 0) _ rfl (veval_of ((h.ot 0 (by decide)).trans h0)) ⟨rfl, rfl⟩)
    | 1, hT =>
      obtain ⟨rfl, rfl⟩ := Prod.mk.inj (Option.some.inj (show some ((some 253 : Option Nat), (.inl (.pointer (some ⟨gb, 0, none⟩)) : Value ⊕ Nat)) = some (d, x) from hT))
      exact wpOp_of _ rfl rfl (v_nil (.tmp 252) _ rfl (veval_of (h.val 0 252 _ rfl (by decide))) ⟨rfl, rfl⟩)
    | 2, hT =>
      obtain ⟨rfl, rfl⟩ := Prod.mk.inj (Option.some.inj (show some ((some 254 : Option Nat), (.inl (.pointer (some ⟨gb, 2, none⟩)) : Value ⊕ Nat)) = some (d, x) from hT))
      exact wpOp_of _ rfl rfl (v_f78 (.tmp 253) 2 _ 2 rfl (by decide) (veval_of (h.val 1 253 _ rfl (by decide))) ⟨rfl, rfl⟩)
    | 3, hT =>
      obtain ⟨rfl, rfl⟩ := Prod.mk.inj (Option.some.inj (show some ((some 255 : Option Nat), (.inl (.slice va l.length vc) : Value ⊕ Nat)) = some (d, x) from hT))
      have n1 := h.later 1 11 rfl 17 (by kernel_rfl)
      have q := h.r.early F n1
      exact wpOp_of _ rfl rfl (v_load25 (.tmp 254) _ _ _ rfl (veval_of (h.val 2 254 _ rfl (by decide))) q.2 ⟨rfl, rfl⟩)
    | 4, hT =>
      obtain ⟨rfl, rfl⟩ := Prod.mk.inj (Option.some.inj (show some ((some 256 : Option Nat), (.inl (.pointer (some ⟨gO, 1, none⟩)) : Value ⊕ Nat)) = some (d, x) from hT))
      exact wpOp_of _ rfl rfl (v_f81 (.tmp 3) 1 _ 1 rfl (by decide) (veval_of ((h.ot 3 (by decide)).trans h3)) ⟨rfl, rfl⟩)
    | 5, hT =>
      obtain ⟨rfl, rfl⟩ := Prod.mk.inj (Option.some.inj (show some ((some 257 : Option Nat), (.inl (.int .i64 A) : Value ⊕ Nat)) = some (d, x) from hT))
      have n1 := h.later 1 11 rfl 17 (by kernel_rfl)
      have q := h.r.early F n1
      have hq : w'.cell? ⟨gO, 1, none⟩ = some (.int .i64 A) := (q.1.arr (fun z => z.elim hgO hgO2) harO).cell 1
      exact wpOp_of _ rfl rfl (v_load3 (.tmp 256) _ _ _ rfl (veval_of (h.val 4 256 _ rfl (by decide))) hq ⟨rfl, rfl⟩)
    | 6, hT =>
      obtain ⟨rfl, rfl⟩ := Prod.mk.inj (Option.some.inj (show some ((some 258 : Option Nat), (.inl (.pointer (some ⟨gb, 0, none⟩)) : Value ⊕ Nat)) = some (d, x) from hT))
      exact wpOp_of _ rfl rfl (v_move (.tmp 0) _ rfl (veval_of ((h.ot 0 (by decide)).trans h0)) ⟨rfl, rfl⟩)
    | 7, hT =>
      obtain ⟨rfl, rfl⟩ := Prod.mk.inj (Option.some.inj (show some ((some 259 : Option Nat), (.inr 6 : Value ⊕ Nat)) = some (d, x) from hT))
      have n6 := h.not 6 rfl
      obtain ⟨hc9, ar9, hk9⟩ := h.r.call F n6
      refine wpOp_of _ rfl rfl (v_call 51 _ _ rfl _ Try.func51 (by kernel_rfl) (by kernel_rfl) #[.pointer (some ⟨gb, 0, none⟩), .int .i64 1] (by simp [veval_of (h.val 6 258 _ rfl (by decide))]; exact ⟨rfl, rfl⟩) ((hcall w' hc9 ar9).mono ?_))
      intro e w2 hp
      obtain ⟨u, he, hR⟩ := hk9 e w2 hp
      exact ⟨u, he, _, rfl, hR⟩
    | 8, hT =>
      obtain ⟨rfl, rfl⟩ := Prod.mk.inj (Option.some.inj (show some ((some 260 : Option Nat), (.inr 5 : Value ⊕ Nat)) = some (d, x) from hT))
      have n1 := h.later 1 11 rfl 17 (by kernel_rfl)
      obtain ⟨u6, e6⟩ := h.has 6 7 rfl 17 (by kernel_rfl)
      obtain ⟨b', m', c', rfl, hR⟩ := h.r.elem n1 e6
      exact wpOp_of _ rfl rfl (v_b41 257 _ 259 _ _ _ rfl (h.val 5 257 _ rfl (by decide)) (h.vale 7 259 6 rfl (by decide) e6) ⟨_, rfl, hR ⟨0, A, 0, 0, 0⟩ ⟨by first | exact hA | exact hB | simp [I64], by first | exact hA | exact hB | simp [I64], by first | exact hA | exact hB | simp [I64], by simp [I64], by simp [I64]⟩⟩)
    | 9, hT =>
      obtain ⟨rfl, rfl⟩ := Prod.mk.inj (Option.some.inj (show some ((some 261 : Option Nat), (.inl (.int .i64 ((l.length : Nat) : Int)) : Value ⊕ Nat)) = some (d, x) from hT))
      exact wpOp_of _ rfl rfl (v_len25 255 _ _ _ rfl rfl (h.val 3 255 _ rfl (by decide)) ⟨rfl, rfl⟩)
    | 10, hT =>
      obtain ⟨rfl, rfl⟩ := Prod.mk.inj (Option.some.inj (show some ((some 262 : Option Nat), (.inr 0 : Value ⊕ Nat)) = some (d, x) from hT))
      have n1 := h.later 1 11 rfl 17 (by kernel_rfl)
      exact wpOp_of _ rfl rfl (v_bz25 rfl ⟨_, rfl, h.r.alloc F n1⟩)
    | 11, hT =>
      obtain ⟨rfl, rfl⟩ := Prod.mk.inj (Option.some.inj (show some ((some 263 : Option Nat), (.inr 1 : Value ⊕ Nat)) = some (d, x) from hT))
      have n1 := h.not 1 rfl
      obtain ⟨u0, e0⟩ := h.has 0 10 rfl 17 (by kernel_rfl)
      obtain ⟨u5, e5⟩ := h.has 5 8 rfl 17 (by kernel_rfl)
      obtain ⟨u6, e6⟩ := h.has 6 7 rfl 17 (by kernel_rfl)
      obtain ⟨g', c', w2, hrun, hR⟩ := h.r.app n1 e0 e5 e6 hl
      exact wpOp_of _ rfl rfl (v_append (.tmp 255) (.tmp 262) 25 rfl _ _ _ _ (veval_of (h.val 3 255 _ rfl (by decide))) (veval_of (h.vale 10 262 0 rfl (by decide) e0)) hrun ⟨_, rfl, hR⟩)
    | 12, hT =>
      obtain ⟨rfl, rfl⟩ := Prod.mk.inj (Option.some.inj (show some ((some 264 : Option Nat), (.inr 2 : Value ⊕ Nat)) = some (d, x) from hT))
      obtain ⟨u1, e1⟩ := h.has 1 11 rfl 17 (by kernel_rfl)
      obtain ⟨g', c', rfl, hR⟩ := h.r.idx e1
      exact wpOp_of _ rfl rfl (v_idx25 (.tmp 263) (.tmp 261) _ _ _ _ rfl (veval_of (h.vale 11 263 1 rfl (by decide) e1)) (veval_of (h.val 9 261 _ rfl (by decide))) (Nat.lt_succ_self _) ⟨_, rfl, hR⟩)
    | 13, hT =>
      obtain ⟨rfl, rfl⟩ := Prod.mk.inj (Option.some.inj (show some ((none : Option Nat), (.inr 3 : Value ⊕ Nat)) = some (d, x) from hT))
      obtain ⟨u1, e1⟩ := h.has 1 11 rfl 17 (by kernel_rfl)
      obtain ⟨u2, e2⟩ := h.has 2 12 rfl 17 (by kernel_rfl)
      obtain ⟨u5, e5⟩ := h.has 5 8 rfl 17 (by kernel_rfl)
      obtain ⟨g', y, P1, rfl, rfl, ho, hcs, hfz, hR⟩ := h.r.store e1 e2 e5
      obtain ⟨ka, kc, hk, -, -⟩ := ho.2.1.form
      obtain ⟨ka2, kc2, hk2, -, -⟩ := ho.2.2.2.1.form
      obtain ⟨ka3, kc3, hk3, -, -⟩ := ho.2.2.2.2.2.1.form
      obtain ⟨yf, yk, yk2, yk3, y4, y5, y6, y7, y8, y9⟩ := y
      simp only at hk hk2 hk3
      subst hk hk2 hk3
      exact wpOp_of _ rfl rfl (v_store109 (.tmp 264) (.tmp 260) _ _ _ _ _ _ _ _ _ _ _ _ _ _ _ _ rfl rfl (veval_of (h.vale 12 264 2 rfl (by decide) e2)) (veval_of (h.vale 8 260 5 rfl (by decide) e5)) hcs hfz ⟨.bool true, rfl, hR _⟩)
    | 14, hT =>
      obtain ⟨rfl, rfl⟩ := Prod.mk.inj (Option.some.inj (show some ((some 265 : Option Nat), (.inl (.pointer (some ⟨gb, 0, none⟩)) : Value ⊕ Nat)) = some (d, x) from hT))
      exact wpOp_of _ rfl rfl (v_nil (.tmp 252) _ rfl (veval_of (h.val 0 252 _ rfl (by decide))) ⟨rfl, rfl⟩)
    | 15, hT =>
      obtain ⟨rfl, rfl⟩ := Prod.mk.inj (Option.some.inj (show some ((some 266 : Option Nat), (.inl (.pointer (some ⟨gb, 2, none⟩)) : Value ⊕ Nat)) = some (d, x) from hT))
      exact wpOp_of _ rfl rfl (v_f78 (.tmp 265) 2 _ 2 rfl (by decide) (veval_of (h.val 14 265 _ rfl (by decide))) ⟨rfl, rfl⟩)
    | 16, hT =>
      obtain ⟨rfl, rfl⟩ := Prod.mk.inj (Option.some.inj (show some ((none : Option Nat), (.inr 4 : Value ⊕ Nat)) = some (d, x) from hT))
      obtain ⟨u1, e1⟩ := h.has 1 11 rfl 17 (by kernel_rfl)
      obtain ⟨b', m', c', rfl, ⟨u', hu'⟩, hfz, hR⟩ := h.r.hdr e1
      exact wpOp_of _ rfl rfl (v_store25 (.tmp 266) (.tmp 263) _ _ _ _ _ _ rfl rfl (veval_of (h.val 15 266 _ rfl (by decide))) (veval_of (h.vale 11 263 1 rfl (by decide) e1)) hu' hfz ⟨.bool true, rfl, hR _⟩)
    | i + 17, hT => simp [tq41T] at hT
  · intro vs w' hv hR
    obtain ⟨u1, e1⟩ := hv 1 (by decide)
    obtain ⟨u3, e3⟩ := hv 3 (by decide)
    obtain ⟨u4, e4⟩ := hv 4 (by decide)
    exact hend vs w' (hR.fin e1 e3 e4)
def tq44 : Array Oper := #[{ dst := some 271, op := Go.Op.move (Go.Operand.tmp 0), type := 75, pos := "build.go:151", after := #[], guard := none }, { dst := some 272, op := Go.Op.nilCheck (Go.Operand.tmp 271), type := 0, pos := "build.go:151", after := #[{ on := 0, ground := Go.Ground.data }], guard := none }, { dst := some 273, op := Go.Op.fieldAddr 78 (Go.Operand.tmp 272) 2, type := 0, pos := "build.go:151", after := #[{ on := 1, ground := Go.Ground.data }], guard := none }, { dst := some 274, op := Go.Op.load 25 (Go.Operand.tmp 273), type := 25, pos := "build.go:151", after := #[{ on := 2, ground := Go.Ground.data }], guard := none }, { dst := some 275, op := Go.Op.fieldAddr 81 (Go.Operand.tmp 3) 1, type := 0, pos := "build.go:151", after := #[], guard := none }, { dst := some 276, op := Go.Op.load 3 (Go.Operand.tmp 275), type := 3, pos := "build.go:151", after := #[{ on := 4, ground := Go.Ground.data }], guard := none }, { dst := some 277, op := Go.Op.fieldAddr 81 (Go.Operand.tmp 3) 2, type := 0, pos := "build.go:151", after := #[], guard := none }, { dst := some 278, op := Go.Op.load 3 (Go.Operand.tmp 277), type := 3, pos := "build.go:151", after := #[{ on := 6, ground := Go.Ground.data }], guard := none }, { dst := some 279, op := Go.Op.move (Go.Operand.tmp 0), type := 75, pos := "build.go:151", after := #[], guard := none }, { dst := some 280, op := Go.Op.call { callee := Go.Callee.value (Go.Operand.func 51), args := #[Go.Operand.tmp 279, Go.Operand.const (Go.Value.int Go.IntKind.i64 2)], argTypes := #[75, 3] }, type := 29, pos := "build.go:151", after := #[{ on := 8, ground := Go.Ground.data }], guard := none }, { dst := some 281, op := Go.Op.build 109 #[(0, Go.Operand.const (Go.Value.int Go.IntKind.i64 1)), (1, Go.Operand.tmp 276), (2, Go.Operand.tmp 278), (5, Go.Operand.tmp 280)], type := 109, pos := "build.go:151", after := #[{ on := 5, ground := Go.Ground.data }, { on := 7, ground := Go.Ground.data }, { on := 9, ground := Go.Ground.data }], guard := none }, { dst := some 282, op := Go.Op.call { callee := Go.Callee.builtin Go.Builtin.len, args := #[Go.Operand.tmp 274], argTypes := #[25] }, type := 3, pos := "build.go:151", after := #[{ on := 3, ground := Go.Ground.data }], guard := none }, { dst := some 283, op := Go.Op.buildSlice 25 1 #[(0, Go.Operand.const (Go.Value.agg #[Go.Value.int Go.IntKind.i64 0, Go.Value.int Go.IntKind.i64 0, Go.Value.int Go.IntKind.i64 0, Go.Value.int Go.IntKind.i64 0, Go.Value.int Go.IntKind.i64 0, Go.Value.slice none 0 0, Go.Value.slice none 0 0, Go.Value.slice none 0 0]))], type := 25, pos := "build.go:151", after := #[], guard := none }, { dst := some 284, op := Go.Op.call { callee := Go.Callee.builtin Go.Builtin.append, args := #[Go.Operand.tmp 274, Go.Operand.tmp 283], argTypes := #[25, 25] }, type := 25, pos := "build.go:151", after := #[{ on := 3, ground := Go.Ground.data }, { on := 12, ground := Go.Ground.data }, { on := 9, ground := Go.Ground.chain }, { on := 0, ground := Go.Ground.phase }, { on := 1, ground := Go.Ground.phase }, { on := 2, ground := Go.Ground.phase }, { on := 3, ground := Go.Ground.phase }, { on := 4, ground := Go.Ground.phase }, { on := 5, ground := Go.Ground.phase }, { on := 6, ground := Go.Ground.phase }, { on := 7, ground := Go.Ground.phase }, { on := 8, ground := Go.Ground.phase }, { on := 9, ground := Go.Ground.phase }, { on := 10, ground := Go.Ground.phase }, { on := 11, ground := Go.Ground.phase }, { on := 12, ground := Go.Ground.phase }], guard := none }, { dst := some 285, op := Go.Op.indexAddr 25 (Go.Operand.tmp 284) (Go.Operand.tmp 282), type := 0, pos := "build.go:151", after := #[{ on := 13, ground := Go.Ground.data }, { on := 11, ground := Go.Ground.data }, { on := 0, ground := Go.Ground.phase }, { on := 1, ground := Go.Ground.phase }, { on := 2, ground := Go.Ground.phase }, { on := 3, ground := Go.Ground.phase }, { on := 4, ground := Go.Ground.phase }, { on := 5, ground := Go.Ground.phase }, { on := 6, ground := Go.Ground.phase }, { on := 7, ground := Go.Ground.phase }, { on := 8, ground := Go.Ground.phase }, { on := 9, ground := Go.Ground.phase }, { on := 10, ground := Go.Ground.phase }, { on := 11, ground := Go.Ground.phase }, { on := 12, ground := Go.Ground.phase }, { on := 13, ground := Go.Ground.phase }, { on := 18, ground := Go.Ground.gcOnly Go.Departure.appendInPlace }], guard := none }, { dst := none, op := Go.Op.store 109 (Go.Operand.tmp 285) (Go.Operand.tmp 281), type := 0, pos := "build.go:151", after := #[{ on := 14, ground := Go.Ground.data }, { on := 10, ground := Go.Ground.data }, { on := 13, ground := Go.Ground.chain }, { on := 0, ground := Go.Ground.phase }, { on := 1, ground := Go.Ground.phase }, { on := 2, ground := Go.Ground.phase }, { on := 3, ground := Go.Ground.phase }, { on := 4, ground := Go.Ground.phase }, { on := 5, ground := Go.Ground.phase }, { on := 6, ground := Go.Ground.phase }, { on := 7, ground := Go.Ground.phase }, { on := 8, ground := Go.Ground.phase }, { on := 9, ground := Go.Ground.phase }, { on := 10, ground := Go.Ground.phase }, { on := 11, ground := Go.Ground.phase }, { on := 12, ground := Go.Ground.phase }, { on := 13, ground := Go.Ground.phase }, { on := 18, ground := Go.Ground.gcOnly Go.Departure.appendInPlace }], guard := none }, { dst := some 286, op := Go.Op.nilCheck (Go.Operand.tmp 271), type := 0, pos := "build.go:151", after := #[{ on := 0, ground := Go.Ground.data }, { on := 0, ground := Go.Ground.phase }, { on := 1, ground := Go.Ground.phase }, { on := 2, ground := Go.Ground.phase }, { on := 3, ground := Go.Ground.phase }, { on := 4, ground := Go.Ground.phase }, { on := 5, ground := Go.Ground.phase }, { on := 6, ground := Go.Ground.phase }, { on := 7, ground := Go.Ground.phase }, { on := 8, ground := Go.Ground.phase }, { on := 9, ground := Go.Ground.phase }, { on := 10, ground := Go.Ground.phase }, { on := 11, ground := Go.Ground.phase }, { on := 12, ground := Go.Ground.phase }, { on := 13, ground := Go.Ground.phase }, { on := 14, ground := Go.Ground.textOnly Go.Departure.appendInPlace }, { on := 15, ground := Go.Ground.textOnly Go.Departure.appendInPlace }], guard := none }, { dst := some 287, op := Go.Op.fieldAddr 78 (Go.Operand.tmp 286) 2, type := 0, pos := "build.go:151", after := #[{ on := 16, ground := Go.Ground.data }, { on := 0, ground := Go.Ground.phase }, { on := 1, ground := Go.Ground.phase }, { on := 2, ground := Go.Ground.phase }, { on := 3, ground := Go.Ground.phase }, { on := 4, ground := Go.Ground.phase }, { on := 5, ground := Go.Ground.phase }, { on := 6, ground := Go.Ground.phase }, { on := 7, ground := Go.Ground.phase }, { on := 8, ground := Go.Ground.phase }, { on := 9, ground := Go.Ground.phase }, { on := 10, ground := Go.Ground.phase }, { on := 11, ground := Go.Ground.phase }, { on := 12, ground := Go.Ground.phase }, { on := 13, ground := Go.Ground.phase }, { on := 14, ground := Go.Ground.textOnly Go.Departure.appendInPlace }, { on := 15, ground := Go.Ground.textOnly Go.Departure.appendInPlace }], guard := none }, { dst := none, op := Go.Op.store 25 (Go.Operand.tmp 287) (Go.Operand.tmp 284), type := 0, pos := "build.go:151", after := #[{ on := 17, ground := Go.Ground.data }, { on := 13, ground := Go.Ground.data }, { on := 13, ground := Go.Ground.chain }, { on := 15, ground := Go.Ground.textOnly Go.Departure.appendInPlace }, { on := 0, ground := Go.Ground.phase }, { on := 1, ground := Go.Ground.phase }, { on := 2, ground := Go.Ground.phase }, { on := 3, ground := Go.Ground.phase }, { on := 4, ground := Go.Ground.phase }, { on := 5, ground := Go.Ground.phase }, { on := 6, ground := Go.Ground.phase }, { on := 7, ground := Go.Ground.phase }, { on := 8, ground := Go.Ground.phase }, { on := 9, ground := Go.Ground.phase }, { on := 10, ground := Go.Ground.phase }, { on := 11, ground := Go.Ground.phase }, { on := 12, ground := Go.Ground.phase }, { on := 13, ground := Go.Ground.phase }, { on := 14, ground := Go.Ground.textOnly Go.Departure.appendInPlace }, { on := 15, ground := Go.Ground.textOnly Go.Departure.appendInPlace }], guard := none }]
def tq44T (gb gO : Nat) (A Bf Cf D : Int) (va : Option Addr) (vc n : Nat) : List (Option Nat × (Value ⊕ Nat)) := [(some 271, .inl (.pointer (some ⟨gb, 0, none⟩))), (some 272, .inl (.pointer (some ⟨gb, 0, none⟩))), (some 273, .inl (.pointer (some ⟨gb, 2, none⟩))), (some 274, .inl (.slice va n vc)), (some 275, .inl (.pointer (some ⟨gO, 1, none⟩))), (some 276, .inl (.int .i64 A)), (some 277, .inl (.pointer (some ⟨gO, 2, none⟩))), (some 278, .inl (.int .i64 Bf)), (some 279, .inl (.pointer (some ⟨gb, 0, none⟩))), (some 280, .inr 6), (some 281, .inr 5), (some 282, .inl (.int .i64 ((n : Nat) : Int))), (some 283, .inr 0), (some 284, .inr 1), (some 285, .inr 2), (none, .inr 3), (some 286, .inl (.pointer (some ⟨gb, 0, none⟩))), (some 287, .inl (.pointer (some ⟨gb, 2, none⟩))), (none, .inr 4)]
theorem tq44_chk : chk tq44 tq44.size = true := by kernel_rfl
set_option maxRecDepth 4000 in
set_option maxHeartbeats 4000000 in
theorem tq44_c {Q : Exit → Act → World → Prop} {a0 : Act} {w : World} {B gb gO : Nat} {A Bf Cf D Kf : Int} {hd : Value → List Value} {P : Nat → Prop} {C : World → Value → List NS → Prop} {va : Option Addr} {vc : Nat} {l : List NS} (G : (Value → List Value) → (Nat → Prop) → (World → Value → List NS → Prop) → Prop) (F : Foc nsC 8 109 25 B gb 2 hd (fun w x => NSok P w x) C) (hz0 : a0.tmps.size = 500) (ar : Arr w.drew gb 78 (hd (.slice va l.length vc))) (hc : C w.drew (.slice va l.length vc) l) (hl : l.length ≤ 1000000)
    (h0 : a0.tmps[0]? = some (.pointer (some ⟨gb, 0, none⟩)))
    (h3 : a0.tmps[3]? = some (.pointer (some ⟨gO, 0, none⟩)))
    (harO : Arr w.drew gO 81 [.int .i64 Kf, .int .i64 A, .int .i64 Bf, .int .i64 Cf, .int .i64 D]) (hgO : gO ≠ gb) (hgO2 : (Value.slice va l.length vc).ownBlock ≠ some gO)
    (hA : I64 A) (hB : I64 Bf)
    (hcall : ∀ w', C w' (.slice va l.length vc) l → Arr w' gb 78 (hd (.slice va l.length vc)) → Calls Try.prog 51 #[.pointer (some ⟨gb, 0, none⟩), .int .i64 2] w' (PopK B gb (.slice va l.length vc) l G w'))
    (hend : ∀ vs w', (∃ hd1 P1 C1 g c x, G hd1 P1 C1 ∧ nsz x = 1 ∧ Lat nsC 109 gb w.drew hd1 (fun w x => NSok P1 w x) C1 (.slice va l.length vc) l g c x true w') → Q .normal (lay a0 (Lmx (tq44T gb gO A Bf Cf D va vc l.length) vs)) w') :
    (Code.region 44 tq44 true).wp Try.prog Q a0 w := by
  refine wp_region_mx (by rfl) (tq44T gb gO A Bf Cf D va vc l.length) [271, 272, 273, 274, 275, 276, 277, 278, 279, 280, 281, 282, 283, 284, 285, 286, 287] [none, none, none, none, none, none, none, none, none, some 6, some 5, none, some 0, some 1, some 2, some 3, none, none, some 4] [12, 13, 14, 15, 18, 10, 9] rfl rfl rfl tq44_chk (by decide) (by decide) (by
    intro d hd
    rw [hz0]
    have : ∀ y ∈ [271, 272, 273, 274, 275, 276, 277, 278, 279, 280, 281, 282, 283, 284, 285, 286, 287], y < 500 := by decide
    exact this _ hd) (R3 B gb w.drew hd P C (.slice va l.length vc) l G) (R3.start F ar hc) ?_ ?_
  · intro i d x hT listed vs a w' h
    match i, hT with
    | 0, hT =>
      obtain ⟨rfl, rfl⟩ := Prod.mk.inj (Option.some.inj (show some ((some 271 : Option Nat), (.inl (.pointer (some ⟨gb, 0, none⟩)) : Value ⊕ Nat)) = some (d, x) from hT))
      exact wpOp_of _ rfl rfl (v_move (.tmp 0) _ rfl (veval_of ((h.ot 0 (by decide)).trans h0)) ⟨rfl, rfl⟩)
    | 1, hT =>
      obtain ⟨rfl, rfl⟩ := Prod.mk.inj (Option.some.inj (show some ((some 272 : Option Nat), (.inl (.pointer (some ⟨gb, 0, none⟩)) : Value ⊕ Nat)) = some (d, x) from hT))
      exact wpOp_of _ rfl rfl (v_nil (.tmp 271) _ rfl (veval_of (h.val 0 271 _ rfl (by decide))) ⟨rfl, rfl⟩)
    | 2, hT =>
      obtain ⟨rfl, rfl⟩ := Prod.mk.inj (Option.some.inj (show some ((some 273 : Option Nat), (.inl (.pointer (some ⟨gb, 2, none⟩)) : Value ⊕ Nat)) = some (d, x) from hT))
      exact wpOp_of _ rfl rfl (v_f78 (.tmp 272) 2 _ 2 rfl (by decide) (veval_of (h.val 1 272 _ rfl (by decide))) ⟨rfl, rfl⟩)
    | 3, hT =>
      obtain ⟨rfl, rfl⟩ := Prod.mk.inj (Option.some.inj (show some ((some 274 : Option Nat), (.inl (.slice va l.length vc) : Value ⊕ Nat)) = some (d, x) from hT))
      have n1 := h.later 1 13 rfl 19 (by kernel_rfl)
      have q := h.r.early F n1
      exact wpOp_of _ rfl rfl (v_load25 (.tmp 273) _ _ _ rfl (veval_of (h.val 2 273 _ rfl (by decide))) q.2 ⟨rfl, rfl⟩)
    | 4, hT =>
      obtain ⟨rfl, rfl⟩ := Prod.mk.inj (Option.some.inj (show some ((some 275 : Option Nat), (.inl (.pointer (some ⟨gO, 1, none⟩)) : Value ⊕ Nat)) = some (d, x) from hT))
      exact wpOp_of _ rfl rfl (v_f81 (.tmp 3) 1 _ 1 rfl (by decide) (veval_of ((h.ot 3 (by decide)).trans h3)) ⟨rfl, rfl⟩)
    | 5, hT =>
      obtain ⟨rfl, rfl⟩ := Prod.mk.inj (Option.some.inj (show some ((some 276 : Option Nat), (.inl (.int .i64 A) : Value ⊕ Nat)) = some (d, x) from hT))
      have n1 := h.later 1 13 rfl 19 (by kernel_rfl)
      have q := h.r.early F n1
      have hq : w'.cell? ⟨gO, 1, none⟩ = some (.int .i64 A) := (q.1.arr (fun z => z.elim hgO hgO2) harO).cell 1
      exact wpOp_of _ rfl rfl (v_load3 (.tmp 275) _ _ _ rfl (veval_of (h.val 4 275 _ rfl (by decide))) hq ⟨rfl, rfl⟩)
    | 6, hT =>
      obtain ⟨rfl, rfl⟩ := Prod.mk.inj (Option.some.inj (show some ((some 277 : Option Nat), (.inl (.pointer (some ⟨gO, 2, none⟩)) : Value ⊕ Nat)) = some (d, x) from hT))
      exact wpOp_of _ rfl rfl (v_f81 (.tmp 3) 2 _ 2 rfl (by decide) (veval_of ((h.ot 3 (by decide)).trans h3)) ⟨rfl, rfl⟩)
    | 7, hT =>
      obtain ⟨rfl, rfl⟩ := Prod.mk.inj (Option.some.inj (show some ((some 278 : Option Nat), (.inl (.int .i64 Bf) : Value ⊕ Nat)) = some (d, x) from hT))
      have n1 := h.later 1 13 rfl 19 (by kernel_rfl)
      have q := h.r.early F n1
      have hq : w'.cell? ⟨gO, 2, none⟩ = some (.int .i64 Bf) := (q.1.arr (fun z => z.elim hgO hgO2) harO).cell 2
      exact wpOp_of _ rfl rfl (v_load3 (.tmp 277) _ _ _ rfl (veval_of (h.val 6 277 _ rfl (by decide))) hq ⟨rfl, rfl⟩)
    | 8, hT =>
      obtain ⟨rfl, rfl⟩ := Prod.mk.inj (Option.some.inj (show some ((some 279 : Option Nat), (.inl (.pointer (some ⟨gb, 0, none⟩)) : Value ⊕ Nat)) = some (d, x) from hT))
      exact wpOp_of _ rfl rfl (v_move (.tmp 0) _ rfl (veval_of ((h.ot 0 (by decide)).trans h0)) ⟨rfl, rfl⟩)
    | 9, hT =>
      obtain ⟨rfl, rfl⟩ := Prod.mk.inj (Option.some.inj (show some ((some 280 : Option Nat), (.inr 6 : Value ⊕ Nat)) = some (d, x) from hT))
      have n6 := h.not 6 rfl
      obtain ⟨hc9, ar9, hk9⟩ := h.r.call F n6
      refine wpOp_of _ rfl rfl (v_call 51 _ _ rfl _ Try.func51 (by kernel_rfl) (by kernel_rfl) #[.pointer (some ⟨gb, 0, none⟩), .int .i64 2] (by simp [veval_of (h.val 8 279 _ rfl (by decide))]; exact ⟨rfl, rfl⟩) ((hcall w' hc9 ar9).mono ?_))
      intro e w2 hp
      obtain ⟨u, he, hR⟩ := hk9 e w2 hp
      exact ⟨u, he, _, rfl, hR⟩
    | 10, hT =>
      obtain ⟨rfl, rfl⟩ := Prod.mk.inj (Option.some.inj (show some ((some 281 : Option Nat), (.inr 5 : Value ⊕ Nat)) = some (d, x) from hT))
      have n1 := h.later 1 13 rfl 19 (by kernel_rfl)
      obtain ⟨u6, e6⟩ := h.has 6 9 rfl 19 (by kernel_rfl)
      obtain ⟨b', m', c', rfl, hR⟩ := h.r.elem n1 e6
      exact wpOp_of _ rfl rfl (v_b44 276 _ 278 _ 280 _ _ _ rfl (h.val 5 276 _ rfl (by decide)) (h.val 7 278 _ rfl (by decide)) (h.vale 9 280 6 rfl (by decide) e6) ⟨_, rfl, hR ⟨1, A, Bf, 0, 0⟩ ⟨by first | exact hA | exact hB | simp [I64], by first | exact hA | exact hB | simp [I64], by first | exact hA | exact hB | simp [I64], by simp [I64], by simp [I64]⟩⟩)
    | 11, hT =>
      obtain ⟨rfl, rfl⟩ := Prod.mk.inj (Option.some.inj (show some ((some 282 : Option Nat), (.inl (.int .i64 ((l.length : Nat) : Int)) : Value ⊕ Nat)) = some (d, x) from hT))
      exact wpOp_of _ rfl rfl (v_len25 274 _ _ _ rfl rfl (h.val 3 274 _ rfl (by decide)) ⟨rfl, rfl⟩)
    | 12, hT =>
      obtain ⟨rfl, rfl⟩ := Prod.mk.inj (Option.some.inj (show some ((some 283 : Option Nat), (.inr 0 : Value ⊕ Nat)) = some (d, x) from hT))
      have n1 := h.later 1 13 rfl 19 (by kernel_rfl)
      exact wpOp_of _ rfl rfl (v_bz25 rfl ⟨_, rfl, h.r.alloc F n1⟩)
    | 13, hT =>
      obtain ⟨rfl, rfl⟩ := Prod.mk.inj (Option.some.inj (show some ((some 284 : Option Nat), (.inr 1 : Value ⊕ Nat)) = some (d, x) from hT))
      have n1 := h.not 1 rfl
      obtain ⟨u0, e0⟩ := h.has 0 12 rfl 19 (by kernel_rfl)
      obtain ⟨u5, e5⟩ := h.has 5 10 rfl 19 (by kernel_rfl)
      obtain ⟨u6, e6⟩ := h.has 6 9 rfl 19 (by kernel_rfl)
      obtain ⟨g', c', w2, hrun, hR⟩ := h.r.app n1 e0 e5 e6 hl
      exact wpOp_of _ rfl rfl (v_append (.tmp 274) (.tmp 283) 25 rfl _ _ _ _ (veval_of (h.val 3 274 _ rfl (by decide))) (veval_of (h.vale 12 283 0 rfl (by decide) e0)) hrun ⟨_, rfl, hR⟩)
    | 14, hT =>
      obtain ⟨rfl, rfl⟩ := Prod.mk.inj (Option.some.inj (show some ((some 285 : Option Nat), (.inr 2 : Value ⊕ Nat)) = some (d, x) from hT))
      obtain ⟨u1, e1⟩ := h.has 1 13 rfl 19 (by kernel_rfl)
      obtain ⟨g', c', rfl, hR⟩ := h.r.idx e1
      exact wpOp_of _ rfl rfl (v_idx25 (.tmp 284) (.tmp 282) _ _ _ _ rfl (veval_of (h.vale 13 284 1 rfl (by decide) e1)) (veval_of (h.val 11 282 _ rfl (by decide))) (Nat.lt_succ_self _) ⟨_, rfl, hR⟩)
    | 15, hT =>
      obtain ⟨rfl, rfl⟩ := Prod.mk.inj (Option.some.inj (show some ((none : Option Nat), (.inr 3 : Value ⊕ Nat)) = some (d, x) from hT))
      obtain ⟨u1, e1⟩ := h.has 1 13 rfl 19 (by kernel_rfl)
      obtain ⟨u2, e2⟩ := h.has 2 14 rfl 19 (by kernel_rfl)
      obtain ⟨u5, e5⟩ := h.has 5 10 rfl 19 (by kernel_rfl)
      obtain ⟨g', y, P1, rfl, rfl, ho, hcs, hfz, hR⟩ := h.r.store e1 e2 e5
      obtain ⟨ka, kc, hk, -, -⟩ := ho.2.1.form
      obtain ⟨ka2, kc2, hk2, -, -⟩ := ho.2.2.2.1.form
      obtain ⟨ka3, kc3, hk3, -, -⟩ := ho.2.2.2.2.2.1.form
      obtain ⟨yf, yk, yk2, yk3, y4, y5, y6, y7, y8, y9⟩ := y
      simp only at hk hk2 hk3
      subst hk hk2 hk3
      exact wpOp_of _ rfl rfl (v_store109 (.tmp 285) (.tmp 281) _ _ _ _ _ _ _ _ _ _ _ _ _ _ _ _ rfl rfl (veval_of (h.vale 14 285 2 rfl (by decide) e2)) (veval_of (h.vale 10 281 5 rfl (by decide) e5)) hcs hfz ⟨.bool true, rfl, hR _⟩)
    | 16, hT =>
      obtain ⟨rfl, rfl⟩ := Prod.mk.inj (Option.some.inj (show some ((some 286 : Option Nat), (.inl (.pointer (some ⟨gb, 0, none⟩)) : Value ⊕ Nat)) = some (d, x) from hT))
      exact wpOp_of _ rfl rfl (v_nil (.tmp 271) _ rfl (veval_of (h.val 0 271 _ rfl (by decide))) ⟨rfl, rfl⟩)
    | 17, hT =>
      obtain ⟨rfl, rfl⟩ := Prod.mk.inj (Option.some.inj (show some ((some 287 : Option Nat), (.inl (.pointer (some ⟨gb, 2, none⟩)) : Value ⊕ Nat)) = some (d, x) from hT))
      exact wpOp_of _ rfl rfl (v_f78 (.tmp 286) 2 _ 2 rfl (by decide) (veval_of (h.val 16 286 _ rfl (by decide))) ⟨rfl, rfl⟩)
    | 18, hT =>
      obtain ⟨rfl, rfl⟩ := Prod.mk.inj (Option.some.inj (show some ((none : Option Nat), (.inr 4 : Value ⊕ Nat)) = some (d, x) from hT))
      obtain ⟨u1, e1⟩ := h.has 1 13 rfl 19 (by kernel_rfl)
      obtain ⟨b', m', c', rfl, ⟨u', hu'⟩, hfz, hR⟩ := h.r.hdr e1
      exact wpOp_of _ rfl rfl (v_store25 (.tmp 287) (.tmp 284) _ _ _ _ _ _ rfl rfl (veval_of (h.val 17 287 _ rfl (by decide))) (veval_of (h.vale 13 284 1 rfl (by decide) e1)) hu' hfz ⟨.bool true, rfl, hR _⟩)
    | i + 19, hT => simp [tq44T] at hT
  · intro vs w' hv hR
    obtain ⟨u1, e1⟩ := hv 1 (by decide)
    obtain ⟨u3, e3⟩ := hv 3 (by decide)
    obtain ⟨u4, e4⟩ := hv 4 (by decide)
    exact hend vs w' (hR.fin e1 e3 e4)
def tq59 : Array Oper := #[{ dst := some 397, op := Go.Op.move (Go.Operand.tmp 0), type := 75, pos := "build.go:169", after := #[], guard := none }, { dst := some 398, op := Go.Op.nilCheck (Go.Operand.tmp 397), type := 0, pos := "build.go:169", after := #[{ on := 0, ground := Go.Ground.data }], guard := none }, { dst := some 399, op := Go.Op.fieldAddr 78 (Go.Operand.tmp 398) 2, type := 0, pos := "build.go:169", after := #[{ on := 1, ground := Go.Ground.data }], guard := none }, { dst := some 400, op := Go.Op.load 25 (Go.Operand.tmp 399), type := 25, pos := "build.go:169", after := #[{ on := 2, ground := Go.Ground.data }], guard := none }, { dst := some 401, op := Go.Op.move (Go.Operand.tmp 11), type := 107, pos := "build.go:169", after := #[], guard := none }, { dst := some 402, op := Go.Op.fieldAddr 81 (Go.Operand.tmp 3) 2, type := 0, pos := "build.go:169", after := #[], guard := none }, { dst := some 403, op := Go.Op.load 3 (Go.Operand.tmp 402), type := 3, pos := "build.go:169", after := #[{ on := 5, ground := Go.Ground.data }], guard := none }, { dst := some 404, op := Go.Op.move (Go.Operand.tmp 0), type := 75, pos := "build.go:169", after := #[], guard := none }, { dst := some 405, op := Go.Op.call { callee := Go.Callee.value (Go.Operand.func 51), args := #[Go.Operand.tmp 404, Go.Operand.const (Go.Value.int Go.IntKind.i64 1)], argTypes := #[75, 3] }, type := 29, pos := "build.go:169", after := #[{ on := 7, ground := Go.Ground.data }], guard := none }, { dst := some 406, op := Go.Op.build 109 #[(0, Go.Operand.tmp 401), (1, Go.Operand.tmp 403), (5, Go.Operand.tmp 405)], type := 109, pos := "build.go:169", after := #[{ on := 4, ground := Go.Ground.data }, { on := 6, ground := Go.Ground.data }, { on := 8, ground := Go.Ground.data }], guard := none }, { dst := some 407, op := Go.Op.call { callee := Go.Callee.builtin Go.Builtin.len, args := #[Go.Operand.tmp 400], argTypes := #[25] }, type := 3, pos := "build.go:169", after := #[{ on := 3, ground := Go.Ground.data }], guard := none }, { dst := some 408, op := Go.Op.buildSlice 25 1 #[(0, Go.Operand.const (Go.Value.agg #[Go.Value.int Go.IntKind.i64 0, Go.Value.int Go.IntKind.i64 0, Go.Value.int Go.IntKind.i64 0, Go.Value.int Go.IntKind.i64 0, Go.Value.int Go.IntKind.i64 0, Go.Value.slice none 0 0, Go.Value.slice none 0 0, Go.Value.slice none 0 0]))], type := 25, pos := "build.go:169", after := #[], guard := none }, { dst := some 409, op := Go.Op.call { callee := Go.Callee.builtin Go.Builtin.append, args := #[Go.Operand.tmp 400, Go.Operand.tmp 408], argTypes := #[25, 25] }, type := 25, pos := "build.go:169", after := #[{ on := 3, ground := Go.Ground.data }, { on := 11, ground := Go.Ground.data }, { on := 8, ground := Go.Ground.chain }, { on := 0, ground := Go.Ground.phase }, { on := 1, ground := Go.Ground.phase }, { on := 2, ground := Go.Ground.phase }, { on := 3, ground := Go.Ground.phase }, { on := 4, ground := Go.Ground.phase }, { on := 5, ground := Go.Ground.phase }, { on := 6, ground := Go.Ground.phase }, { on := 7, ground := Go.Ground.phase }, { on := 8, ground := Go.Ground.phase }, { on := 9, ground := Go.Ground.phase }, { on := 10, ground := Go.Ground.phase }, { on := 11, ground := Go.Ground.phase }], guard := none }, { dst := some 410, op := Go.Op.indexAddr 25 (Go.Operand.tmp 409) (Go.Operand.tmp 407), type := 0, pos := "build.go:169", after := #[{ on := 12, ground := Go.Ground.data }, { on := 10, ground := Go.Ground.data }, { on := 0, ground := Go.Ground.phase }, { on := 1, ground := Go.Ground.phase }, { on := 2, ground := Go.Ground.phase }, { on := 3, ground := Go.Ground.phase }, { on := 4, ground := Go.Ground.phase }, { on := 5, ground := Go.Ground.phase }, { on := 6, ground := Go.Ground.phase }, { on := 7, ground := Go.Ground.phase }, { on := 8, ground := Go.Ground.phase }, { on := 9, ground := Go.Ground.phase }, { on := 10, ground := Go.Ground.phase }, { on := 11, ground := Go.Ground.phase }, { on := 12, ground := Go.Ground.phase }, { on := 17, ground := Go.Ground.gcOnly Go.Departure.appendInPlace }], guard := none }, { dst := none, op := Go.Op.store 109 (Go.Operand.tmp 410) (Go.Operand.tmp 406), type := 0, pos := "build.go:169", after := #[{ on := 13, ground := Go.Ground.data }, { on := 9, ground := Go.Ground.data }, { on := 12, ground := Go.Ground.chain }, { on := 0, ground := Go.Ground.phase }, { on := 1, ground := Go.Ground.phase }, { on := 2, ground := Go.Ground.phase }, { on := 3, ground := Go.Ground.phase }, { on := 4, ground := Go.Ground.phase }, { on := 5, ground := Go.Ground.phase }, { on := 6, ground := Go.Ground.phase }, { on := 7, ground := Go.Ground.phase }, { on := 8, ground := Go.Ground.phase }, { on := 9, ground := Go.Ground.phase }, { on := 10, ground := Go.Ground.phase }, { on := 11, ground := Go.Ground.phase }, { on := 12, ground := Go.Ground.phase }, { on := 17, ground := Go.Ground.gcOnly Go.Departure.appendInPlace }], guard := none }, { dst := some 411, op := Go.Op.nilCheck (Go.Operand.tmp 397), type := 0, pos := "build.go:169", after := #[{ on := 0, ground := Go.Ground.data }, { on := 0, ground := Go.Ground.phase }, { on := 1, ground := Go.Ground.phase }, { on := 2, ground := Go.Ground.phase }, { on := 3, ground := Go.Ground.phase }, { on := 4, ground := Go.Ground.phase }, { on := 5, ground := Go.Ground.phase }, { on := 6, ground := Go.Ground.phase }, { on := 7, ground := Go.Ground.phase }, { on := 8, ground := Go.Ground.phase }, { on := 9, ground := Go.Ground.phase }, { on := 10, ground := Go.Ground.phase }, { on := 11, ground := Go.Ground.phase }, { on := 12, ground := Go.Ground.phase }, { on := 13, ground := Go.Ground.textOnly Go.Departure.appendInPlace }, { on := 14, ground := Go.Ground.textOnly Go.Departure.appendInPlace }], guard := none }, { dst := some 412, op := Go.Op.fieldAddr 78 (Go.Operand.tmp 411) 2, type := 0, pos := "build.go:169", after := #[{ on := 15, ground := Go.Ground.data }, { on := 0, ground := Go.Ground.phase }, { on := 1, ground := Go.Ground.phase }, { on := 2, ground := Go.Ground.phase }, { on := 3, ground := Go.Ground.phase }, { on := 4, ground := Go.Ground.phase }, { on := 5, ground := Go.Ground.phase }, { on := 6, ground := Go.Ground.phase }, { on := 7, ground := Go.Ground.phase }, { on := 8, ground := Go.Ground.phase }, { on := 9, ground := Go.Ground.phase }, { on := 10, ground := Go.Ground.phase }, { on := 11, ground := Go.Ground.phase }, { on := 12, ground := Go.Ground.phase }, { on := 13, ground := Go.Ground.textOnly Go.Departure.appendInPlace }, { on := 14, ground := Go.Ground.textOnly Go.Departure.appendInPlace }], guard := none }, { dst := none, op := Go.Op.store 25 (Go.Operand.tmp 412) (Go.Operand.tmp 409), type := 0, pos := "build.go:169", after := #[{ on := 16, ground := Go.Ground.data }, { on := 12, ground := Go.Ground.data }, { on := 12, ground := Go.Ground.chain }, { on := 14, ground := Go.Ground.textOnly Go.Departure.appendInPlace }, { on := 0, ground := Go.Ground.phase }, { on := 1, ground := Go.Ground.phase }, { on := 2, ground := Go.Ground.phase }, { on := 3, ground := Go.Ground.phase }, { on := 4, ground := Go.Ground.phase }, { on := 5, ground := Go.Ground.phase }, { on := 6, ground := Go.Ground.phase }, { on := 7, ground := Go.Ground.phase }, { on := 8, ground := Go.Ground.phase }, { on := 9, ground := Go.Ground.phase }, { on := 10, ground := Go.Ground.phase }, { on := 11, ground := Go.Ground.phase }, { on := 12, ground := Go.Ground.phase }, { on := 13, ground := Go.Ground.textOnly Go.Departure.appendInPlace }, { on := 14, ground := Go.Ground.textOnly Go.Departure.appendInPlace }], guard := none }]
def tq59T (gb gO : Nat) (A Bf Cf D : Int) (va : Option Addr) (vc n : Nat) : List (Option Nat × (Value ⊕ Nat)) := [(some 397, .inl (.pointer (some ⟨gb, 0, none⟩))), (some 398, .inl (.pointer (some ⟨gb, 0, none⟩))), (some 399, .inl (.pointer (some ⟨gb, 2, none⟩))), (some 400, .inl (.slice va n vc)), (some 401, .inl (.int .i64 A)), (some 402, .inl (.pointer (some ⟨gO, 2, none⟩))), (some 403, .inl (.int .i64 Bf)), (some 404, .inl (.pointer (some ⟨gb, 0, none⟩))), (some 405, .inr 6), (some 406, .inr 5), (some 407, .inl (.int .i64 ((n : Nat) : Int))), (some 408, .inr 0), (some 409, .inr 1), (some 410, .inr 2), (none, .inr 3), (some 411, .inl (.pointer (some ⟨gb, 0, none⟩))), (some 412, .inl (.pointer (some ⟨gb, 2, none⟩))), (none, .inr 4)]
theorem tq59_chk : chk tq59 tq59.size = true := by kernel_rfl
set_option maxRecDepth 4000 in
set_option maxHeartbeats 4000000 in
theorem tq59_c {Q : Exit → Act → World → Prop} {a0 : Act} {w : World} {B gb gO : Nat} {A Bf Cf D Kf : Int} {hd : Value → List Value} {P : Nat → Prop} {C : World → Value → List NS → Prop} {va : Option Addr} {vc : Nat} {l : List NS} (G : (Value → List Value) → (Nat → Prop) → (World → Value → List NS → Prop) → Prop) (F : Foc nsC 8 109 25 B gb 2 hd (fun w x => NSok P w x) C) (hz0 : a0.tmps.size = 500) (ar : Arr w.drew gb 78 (hd (.slice va l.length vc))) (hc : C w.drew (.slice va l.length vc) l) (hl : l.length ≤ 1000000)
    (h0 : a0.tmps[0]? = some (.pointer (some ⟨gb, 0, none⟩)))
    (h3 : a0.tmps[3]? = some (.pointer (some ⟨gO, 0, none⟩)))
    (h11 : a0.tmps[11]? = some (.int .i64 A))
    (harO : Arr w.drew gO 81 [.int .i64 Kf, .int .i64 A, .int .i64 Bf, .int .i64 Cf, .int .i64 D]) (hgO : gO ≠ gb) (hgO2 : (Value.slice va l.length vc).ownBlock ≠ some gO)
    (hA : I64 A) (hB : I64 Bf)
    (hcall : ∀ w', C w' (.slice va l.length vc) l → Arr w' gb 78 (hd (.slice va l.length vc)) → Calls Try.prog 51 #[.pointer (some ⟨gb, 0, none⟩), .int .i64 1] w' (PopK B gb (.slice va l.length vc) l G w'))
    (hend : ∀ vs w', (∃ hd1 P1 C1 g c x, G hd1 P1 C1 ∧ nsz x = 1 ∧ Lat nsC 109 gb w.drew hd1 (fun w x => NSok P1 w x) C1 (.slice va l.length vc) l g c x true w') → Q .normal (lay a0 (Lmx (tq59T gb gO A Bf Cf D va vc l.length) vs)) w') :
    (Code.region 59 tq59 true).wp Try.prog Q a0 w := by
  refine wp_region_mx (by rfl) (tq59T gb gO A Bf Cf D va vc l.length) [397, 398, 399, 400, 401, 402, 403, 404, 405, 406, 407, 408, 409, 410, 411, 412] [none, none, none, none, none, none, none, none, some 6, some 5, none, some 0, some 1, some 2, some 3, none, none, some 4] [11, 12, 13, 14, 17, 9, 8] rfl rfl rfl tq59_chk (by decide) (by decide) (by
    intro d hd
    rw [hz0]
    have : ∀ y ∈ [397, 398, 399, 400, 401, 402, 403, 404, 405, 406, 407, 408, 409, 410, 411, 412], y < 500 := by decide
    exact this _ hd) (R3 B gb w.drew hd P C (.slice va l.length vc) l G) (R3.start F ar hc) ?_ ?_
  · intro i d x hT listed vs a w' h
    match i, hT with
    | 0, hT =>
      obtain ⟨rfl, rfl⟩ := Prod.mk.inj (Option.some.inj (show some ((some 397 : Option Nat), (.inl (.pointer (some ⟨gb, 0, none⟩)) : Value ⊕ Nat)) = some (d, x) from hT))
      exact wpOp_of _ rfl rfl (v_move (.tmp 0) _ rfl (veval_of ((h.ot 0 (by decide)).trans h0)) ⟨rfl, rfl⟩)
    | 1, hT =>
      obtain ⟨rfl, rfl⟩ := Prod.mk.inj (Option.some.inj (show some ((some 398 : Option Nat), (.inl (.pointer (some ⟨gb, 0, none⟩)) : Value ⊕ Nat)) = some (d, x) from hT))
      exact wpOp_of _ rfl rfl (v_nil (.tmp 397) _ rfl (veval_of (h.val 0 397 _ rfl (by decide))) ⟨rfl, rfl⟩)
    | 2, hT =>
      obtain ⟨rfl, rfl⟩ := Prod.mk.inj (Option.some.inj (show some ((some 399 : Option Nat), (.inl (.pointer (some ⟨gb, 2, none⟩)) : Value ⊕ Nat)) = some (d, x) from hT))
      exact wpOp_of _ rfl rfl (v_f78 (.tmp 398) 2 _ 2 rfl (by decide) (veval_of (h.val 1 398 _ rfl (by decide))) ⟨rfl, rfl⟩)
    | 3, hT =>
      obtain ⟨rfl, rfl⟩ := Prod.mk.inj (Option.some.inj (show some ((some 400 : Option Nat), (.inl (.slice va l.length vc) : Value ⊕ Nat)) = some (d, x) from hT))
      have n1 := h.later 1 12 rfl 18 (by kernel_rfl)
      have q := h.r.early F n1
      exact wpOp_of _ rfl rfl (v_load25 (.tmp 399) _ _ _ rfl (veval_of (h.val 2 399 _ rfl (by decide))) q.2 ⟨rfl, rfl⟩)
    | 4, hT =>
      obtain ⟨rfl, rfl⟩ := Prod.mk.inj (Option.some.inj (show some ((some 401 : Option Nat), (.inl (.int .i64 A) : Value ⊕ Nat)) = some (d, x) from hT))
      exact wpOp_of _ rfl rfl (v_move (.tmp 11) _ rfl (veval_of ((h.ot 11 (by decide)).trans h11)) ⟨rfl, rfl⟩)
    | 5, hT =>
      obtain ⟨rfl, rfl⟩ := Prod.mk.inj (Option.some.inj (show some ((some 402 : Option Nat), (.inl (.pointer (some ⟨gO, 2, none⟩)) : Value ⊕ Nat)) = some (d, x) from hT))
      exact wpOp_of _ rfl rfl (v_f81 (.tmp 3) 2 _ 2 rfl (by decide) (veval_of ((h.ot 3 (by decide)).trans h3)) ⟨rfl, rfl⟩)
    | 6, hT =>
      obtain ⟨rfl, rfl⟩ := Prod.mk.inj (Option.some.inj (show some ((some 403 : Option Nat), (.inl (.int .i64 Bf) : Value ⊕ Nat)) = some (d, x) from hT))
      have n1 := h.later 1 12 rfl 18 (by kernel_rfl)
      have q := h.r.early F n1
      have hq : w'.cell? ⟨gO, 2, none⟩ = some (.int .i64 Bf) := (q.1.arr (fun z => z.elim hgO hgO2) harO).cell 2
      exact wpOp_of _ rfl rfl (v_load3 (.tmp 402) _ _ _ rfl (veval_of (h.val 5 402 _ rfl (by decide))) hq ⟨rfl, rfl⟩)
    | 7, hT =>
      obtain ⟨rfl, rfl⟩ := Prod.mk.inj (Option.some.inj (show some ((some 404 : Option Nat), (.inl (.pointer (some ⟨gb, 0, none⟩)) : Value ⊕ Nat)) = some (d, x) from hT))
      exact wpOp_of _ rfl rfl (v_move (.tmp 0) _ rfl (veval_of ((h.ot 0 (by decide)).trans h0)) ⟨rfl, rfl⟩)
    | 8, hT =>
      obtain ⟨rfl, rfl⟩ := Prod.mk.inj (Option.some.inj (show some ((some 405 : Option Nat), (.inr 6 : Value ⊕ Nat)) = some (d, x) from hT))
      have n6 := h.not 6 rfl
      obtain ⟨hc9, ar9, hk9⟩ := h.r.call F n6
      refine wpOp_of _ rfl rfl (v_call 51 _ _ rfl _ Try.func51 (by kernel_rfl) (by kernel_rfl) #[.pointer (some ⟨gb, 0, none⟩), .int .i64 1] (by simp [veval_of (h.val 7 404 _ rfl (by decide))]; exact ⟨rfl, rfl⟩) ((hcall w' hc9 ar9).mono ?_))
      intro e w2 hp
      obtain ⟨u, he, hR⟩ := hk9 e w2 hp
      exact ⟨u, he, _, rfl, hR⟩
    | 9, hT =>
      obtain ⟨rfl, rfl⟩ := Prod.mk.inj (Option.some.inj (show some ((some 406 : Option Nat), (.inr 5 : Value ⊕ Nat)) = some (d, x) from hT))
      have n1 := h.later 1 12 rfl 18 (by kernel_rfl)
      obtain ⟨u6, e6⟩ := h.has 6 8 rfl 18 (by kernel_rfl)
      obtain ⟨b', m', c', rfl, hR⟩ := h.r.elem n1 e6
      exact wpOp_of _ rfl rfl (v_b59 401 _ 403 _ 405 _ _ _ rfl (h.val 4 401 _ rfl (by decide)) (h.val 6 403 _ rfl (by decide)) (h.vale 8 405 6 rfl (by decide) e6) ⟨_, rfl, hR ⟨A, Bf, 0, 0, 0⟩ ⟨by first | exact hA | exact hB | simp [I64], by first | exact hA | exact hB | simp [I64], by first | exact hA | exact hB | simp [I64], by simp [I64], by simp [I64]⟩⟩)
    | 10, hT =>
      obtain ⟨rfl, rfl⟩ := Prod.mk.inj (Option.some.inj (show some ((some 407 : Option Nat), (.inl (.int .i64 ((l.length : Nat) : Int)) : Value ⊕ Nat)) = some (d, x) from hT))
      exact wpOp_of _ rfl rfl (v_len25 400 _ _ _ rfl rfl (h.val 3 400 _ rfl (by decide)) ⟨rfl, rfl⟩)
    | 11, hT =>
      obtain ⟨rfl, rfl⟩ := Prod.mk.inj (Option.some.inj (show some ((some 408 : Option Nat), (.inr 0 : Value ⊕ Nat)) = some (d, x) from hT))
      have n1 := h.later 1 12 rfl 18 (by kernel_rfl)
      exact wpOp_of _ rfl rfl (v_bz25 rfl ⟨_, rfl, h.r.alloc F n1⟩)
    | 12, hT =>
      obtain ⟨rfl, rfl⟩ := Prod.mk.inj (Option.some.inj (show some ((some 409 : Option Nat), (.inr 1 : Value ⊕ Nat)) = some (d, x) from hT))
      have n1 := h.not 1 rfl
      obtain ⟨u0, e0⟩ := h.has 0 11 rfl 18 (by kernel_rfl)
      obtain ⟨u5, e5⟩ := h.has 5 9 rfl 18 (by kernel_rfl)
      obtain ⟨u6, e6⟩ := h.has 6 8 rfl 18 (by kernel_rfl)
      obtain ⟨g', c', w2, hrun, hR⟩ := h.r.app n1 e0 e5 e6 hl
      exact wpOp_of _ rfl rfl (v_append (.tmp 400) (.tmp 408) 25 rfl _ _ _ _ (veval_of (h.val 3 400 _ rfl (by decide))) (veval_of (h.vale 11 408 0 rfl (by decide) e0)) hrun ⟨_, rfl, hR⟩)
    | 13, hT =>
      obtain ⟨rfl, rfl⟩ := Prod.mk.inj (Option.some.inj (show some ((some 410 : Option Nat), (.inr 2 : Value ⊕ Nat)) = some (d, x) from hT))
      obtain ⟨u1, e1⟩ := h.has 1 12 rfl 18 (by kernel_rfl)
      obtain ⟨g', c', rfl, hR⟩ := h.r.idx e1
      exact wpOp_of _ rfl rfl (v_idx25 (.tmp 409) (.tmp 407) _ _ _ _ rfl (veval_of (h.vale 12 409 1 rfl (by decide) e1)) (veval_of (h.val 10 407 _ rfl (by decide))) (Nat.lt_succ_self _) ⟨_, rfl, hR⟩)
    | 14, hT =>
      obtain ⟨rfl, rfl⟩ := Prod.mk.inj (Option.some.inj (show some ((none : Option Nat), (.inr 3 : Value ⊕ Nat)) = some (d, x) from hT))
      obtain ⟨u1, e1⟩ := h.has 1 12 rfl 18 (by kernel_rfl)
      obtain ⟨u2, e2⟩ := h.has 2 13 rfl 18 (by kernel_rfl)
      obtain ⟨u5, e5⟩ := h.has 5 9 rfl 18 (by kernel_rfl)
      obtain ⟨g', y, P1, rfl, rfl, ho, hcs, hfz, hR⟩ := h.r.store e1 e2 e5
      obtain ⟨ka, kc, hk, -, -⟩ := ho.2.1.form
      obtain ⟨ka2, kc2, hk2, -, -⟩ := ho.2.2.2.1.form
      obtain ⟨ka3, kc3, hk3, -, -⟩ := ho.2.2.2.2.2.1.form
      obtain ⟨yf, yk, yk2, yk3, y4, y5, y6, y7, y8, y9⟩ := y
      simp only at hk hk2 hk3
      subst hk hk2 hk3
      exact wpOp_of _ rfl rfl (v_store109 (.tmp 410) (.tmp 406) _ _ _ _ _ _ _ _ _ _ _ _ _ _ _ _ rfl rfl (veval_of (h.vale 13 410 2 rfl (by decide) e2)) (veval_of (h.vale 9 406 5 rfl (by decide) e5)) hcs hfz ⟨.bool true, rfl, hR _⟩)
    | 15, hT =>
      obtain ⟨rfl, rfl⟩ := Prod.mk.inj (Option.some.inj (show some ((some 411 : Option Nat), (.inl (.pointer (some ⟨gb, 0, none⟩)) : Value ⊕ Nat)) = some (d, x) from hT))
      exact wpOp_of _ rfl rfl (v_nil (.tmp 397) _ rfl (veval_of (h.val 0 397 _ rfl (by decide))) ⟨rfl, rfl⟩)
    | 16, hT =>
      obtain ⟨rfl, rfl⟩ := Prod.mk.inj (Option.some.inj (show some ((some 412 : Option Nat), (.inl (.pointer (some ⟨gb, 2, none⟩)) : Value ⊕ Nat)) = some (d, x) from hT))
      exact wpOp_of _ rfl rfl (v_f78 (.tmp 411) 2 _ 2 rfl (by decide) (veval_of (h.val 15 411 _ rfl (by decide))) ⟨rfl, rfl⟩)
    | 17, hT =>
      obtain ⟨rfl, rfl⟩ := Prod.mk.inj (Option.some.inj (show some ((none : Option Nat), (.inr 4 : Value ⊕ Nat)) = some (d, x) from hT))
      obtain ⟨u1, e1⟩ := h.has 1 12 rfl 18 (by kernel_rfl)
      obtain ⟨b', m', c', rfl, ⟨u', hu'⟩, hfz, hR⟩ := h.r.hdr e1
      exact wpOp_of _ rfl rfl (v_store25 (.tmp 412) (.tmp 409) _ _ _ _ _ _ rfl rfl (veval_of (h.val 16 412 _ rfl (by decide))) (veval_of (h.vale 12 409 1 rfl (by decide) e1)) hu' hfz ⟨.bool true, rfl, hR _⟩)
    | i + 18, hT => simp [tq59T] at hT
  · intro vs w' hv hR
    obtain ⟨u1, e1⟩ := hv 1 (by decide)
    obtain ⟨u3, e3⟩ := hv 3 (by decide)
    obtain ⟨u4, e4⟩ := hv 4 (by decide)
    exact hend vs w' (hR.fin e1 e3 e4)
def tq61 : Array Oper := #[{ dst := some 423, op := Go.Op.move (Go.Operand.tmp 0), type := 75, pos := "build.go:172", after := #[], guard := none }, { dst := some 424, op := Go.Op.nilCheck (Go.Operand.tmp 423), type := 0, pos := "build.go:172", after := #[{ on := 0, ground := Go.Ground.data }], guard := none }, { dst := some 425, op := Go.Op.fieldAddr 78 (Go.Operand.tmp 424) 2, type := 0, pos := "build.go:172", after := #[{ on := 1, ground := Go.Ground.data }], guard := none }, { dst := some 426, op := Go.Op.load 25 (Go.Operand.tmp 425), type := 25, pos := "build.go:172", after := #[{ on := 2, ground := Go.Ground.data }], guard := none }, { dst := some 427, op := Go.Op.move (Go.Operand.tmp 11), type := 107, pos := "build.go:172", after := #[], guard := none }, { dst := some 428, op := Go.Op.fieldAddr 81 (Go.Operand.tmp 3) 2, type := 0, pos := "build.go:172", after := #[], guard := none }, { dst := some 429, op := Go.Op.load 3 (Go.Operand.tmp 428), type := 3, pos := "build.go:172", after := #[{ on := 5, ground := Go.Ground.data }], guard := none }, { dst := some 430, op := Go.Op.move (Go.Operand.tmp 0), type := 75, pos := "build.go:172", after := #[], guard := none }, { dst := some 431, op := Go.Op.call { callee := Go.Callee.value (Go.Operand.func 51), args := #[Go.Operand.tmp 430, Go.Operand.const (Go.Value.int Go.IntKind.i64 3)], argTypes := #[75, 3] }, type := 29, pos := "build.go:172", after := #[{ on := 7, ground := Go.Ground.data }], guard := none }, { dst := some 432, op := Go.Op.build 109 #[(0, Go.Operand.tmp 427), (1, Go.Operand.tmp 429), (5, Go.Operand.tmp 431)], type := 109, pos := "build.go:172", after := #[{ on := 4, ground := Go.Ground.data }, { on := 6, ground := Go.Ground.data }, { on := 8, ground := Go.Ground.data }], guard := none }, { dst := some 433, op := Go.Op.call { callee := Go.Callee.builtin Go.Builtin.len, args := #[Go.Operand.tmp 426], argTypes := #[25] }, type := 3, pos := "build.go:172", after := #[{ on := 3, ground := Go.Ground.data }], guard := none }, { dst := some 434, op := Go.Op.buildSlice 25 1 #[(0, Go.Operand.const (Go.Value.agg #[Go.Value.int Go.IntKind.i64 0, Go.Value.int Go.IntKind.i64 0, Go.Value.int Go.IntKind.i64 0, Go.Value.int Go.IntKind.i64 0, Go.Value.int Go.IntKind.i64 0, Go.Value.slice none 0 0, Go.Value.slice none 0 0, Go.Value.slice none 0 0]))], type := 25, pos := "build.go:172", after := #[], guard := none }, { dst := some 435, op := Go.Op.call { callee := Go.Callee.builtin Go.Builtin.append, args := #[Go.Operand.tmp 426, Go.Operand.tmp 434], argTypes := #[25, 25] }, type := 25, pos := "build.go:172", after := #[{ on := 3, ground := Go.Ground.data }, { on := 11, ground := Go.Ground.data }, { on := 8, ground := Go.Ground.chain }, { on := 0, ground := Go.Ground.phase }, { on := 1, ground := Go.Ground.phase }, { on := 2, ground := Go.Ground.phase }, { on := 3, ground := Go.Ground.phase }, { on := 4, ground := Go.Ground.phase }, { on := 5, ground := Go.Ground.phase }, { on := 6, ground := Go.Ground.phase }, { on := 7, ground := Go.Ground.phase }, { on := 8, ground := Go.Ground.phase }, { on := 9, ground := Go.Ground.phase }, { on := 10, ground := Go.Ground.phase }, { on := 11, ground := Go.Ground.phase }], guard := none }, { dst := some 436, op := Go.Op.indexAddr 25 (Go.Operand.tmp 435) (Go.Operand.tmp 433), type := 0, pos := "build.go:172", after := #[{ on := 12, ground := Go.Ground.data }, { on := 10, ground := Go.Ground.data }, { on := 0, ground := Go.Ground.phase }, { on := 1, ground := Go.Ground.phase }, { on := 2, ground := Go.Ground.phase }, { on := 3, ground := Go.Ground.phase }, { on := 4, ground := Go.Ground.phase }, { on := 5, ground := Go.Ground.phase }, { on := 6, ground := Go.Ground.phase }, { on := 7, ground := Go.Ground.phase }, { on := 8, ground := Go.Ground.phase }, { on := 9, ground := Go.Ground.phase }, { on := 10, ground := Go.Ground.phase }, { on := 11, ground := Go.Ground.phase }, { on := 12, ground := Go.Ground.phase }, { on := 17, ground := Go.Ground.gcOnly Go.Departure.appendInPlace }], guard := none }, { dst := none, op := Go.Op.store 109 (Go.Operand.tmp 436) (Go.Operand.tmp 432), type := 0, pos := "build.go:172", after := #[{ on := 13, ground := Go.Ground.data }, { on := 9, ground := Go.Ground.data }, { on := 12, ground := Go.Ground.chain }, { on := 0, ground := Go.Ground.phase }, { on := 1, ground := Go.Ground.phase }, { on := 2, ground := Go.Ground.phase }, { on := 3, ground := Go.Ground.phase }, { on := 4, ground := Go.Ground.phase }, { on := 5, ground := Go.Ground.phase }, { on := 6, ground := Go.Ground.phase }, { on := 7, ground := Go.Ground.phase }, { on := 8, ground := Go.Ground.phase }, { on := 9, ground := Go.Ground.phase }, { on := 10, ground := Go.Ground.phase }, { on := 11, ground := Go.Ground.phase }, { on := 12, ground := Go.Ground.phase }, { on := 17, ground := Go.Ground.gcOnly Go.Departure.appendInPlace }], guard := none }, { dst := some 437, op := Go.Op.nilCheck (Go.Operand.tmp 423), type := 0, pos := "build.go:172", after := #[{ on := 0, ground := Go.Ground.data }, { on := 0, ground := Go.Ground.phase }, { on := 1, ground := Go.Ground.phase }, { on := 2, ground := Go.Ground.phase }, { on := 3, ground := Go.Ground.phase }, { on := 4, ground := Go.Ground.phase }, { on := 5, ground := Go.Ground.phase }, { on := 6, ground := Go.Ground.phase }, { on := 7, ground := Go.Ground.phase }, { on := 8, ground := Go.Ground.phase }, { on := 9, ground := Go.Ground.phase }, { on := 10, ground := Go.Ground.phase }, { on := 11, ground := Go.Ground.phase }, { on := 12, ground := Go.Ground.phase }, { on := 13, ground := Go.Ground.textOnly Go.Departure.appendInPlace }, { on := 14, ground := Go.Ground.textOnly Go.Departure.appendInPlace }], guard := none }, { dst := some 438, op := Go.Op.fieldAddr 78 (Go.Operand.tmp 437) 2, type := 0, pos := "build.go:172", after := #[{ on := 15, ground := Go.Ground.data }, { on := 0, ground := Go.Ground.phase }, { on := 1, ground := Go.Ground.phase }, { on := 2, ground := Go.Ground.phase }, { on := 3, ground := Go.Ground.phase }, { on := 4, ground := Go.Ground.phase }, { on := 5, ground := Go.Ground.phase }, { on := 6, ground := Go.Ground.phase }, { on := 7, ground := Go.Ground.phase }, { on := 8, ground := Go.Ground.phase }, { on := 9, ground := Go.Ground.phase }, { on := 10, ground := Go.Ground.phase }, { on := 11, ground := Go.Ground.phase }, { on := 12, ground := Go.Ground.phase }, { on := 13, ground := Go.Ground.textOnly Go.Departure.appendInPlace }, { on := 14, ground := Go.Ground.textOnly Go.Departure.appendInPlace }], guard := none }, { dst := none, op := Go.Op.store 25 (Go.Operand.tmp 438) (Go.Operand.tmp 435), type := 0, pos := "build.go:172", after := #[{ on := 16, ground := Go.Ground.data }, { on := 12, ground := Go.Ground.data }, { on := 12, ground := Go.Ground.chain }, { on := 14, ground := Go.Ground.textOnly Go.Departure.appendInPlace }, { on := 0, ground := Go.Ground.phase }, { on := 1, ground := Go.Ground.phase }, { on := 2, ground := Go.Ground.phase }, { on := 3, ground := Go.Ground.phase }, { on := 4, ground := Go.Ground.phase }, { on := 5, ground := Go.Ground.phase }, { on := 6, ground := Go.Ground.phase }, { on := 7, ground := Go.Ground.phase }, { on := 8, ground := Go.Ground.phase }, { on := 9, ground := Go.Ground.phase }, { on := 10, ground := Go.Ground.phase }, { on := 11, ground := Go.Ground.phase }, { on := 12, ground := Go.Ground.phase }, { on := 13, ground := Go.Ground.textOnly Go.Departure.appendInPlace }, { on := 14, ground := Go.Ground.textOnly Go.Departure.appendInPlace }], guard := none }]
def tq61T (gb gO : Nat) (A Bf Cf D : Int) (va : Option Addr) (vc n : Nat) : List (Option Nat × (Value ⊕ Nat)) := [(some 423, .inl (.pointer (some ⟨gb, 0, none⟩))), (some 424, .inl (.pointer (some ⟨gb, 0, none⟩))), (some 425, .inl (.pointer (some ⟨gb, 2, none⟩))), (some 426, .inl (.slice va n vc)), (some 427, .inl (.int .i64 A)), (some 428, .inl (.pointer (some ⟨gO, 2, none⟩))), (some 429, .inl (.int .i64 Bf)), (some 430, .inl (.pointer (some ⟨gb, 0, none⟩))), (some 431, .inr 6), (some 432, .inr 5), (some 433, .inl (.int .i64 ((n : Nat) : Int))), (some 434, .inr 0), (some 435, .inr 1), (some 436, .inr 2), (none, .inr 3), (some 437, .inl (.pointer (some ⟨gb, 0, none⟩))), (some 438, .inl (.pointer (some ⟨gb, 2, none⟩))), (none, .inr 4)]
theorem tq61_chk : chk tq61 tq61.size = true := by kernel_rfl
set_option maxRecDepth 4000 in
set_option maxHeartbeats 4000000 in
theorem tq61_c {Q : Exit → Act → World → Prop} {a0 : Act} {w : World} {B gb gO : Nat} {A Bf Cf D Kf : Int} {hd : Value → List Value} {P : Nat → Prop} {C : World → Value → List NS → Prop} {va : Option Addr} {vc : Nat} {l : List NS} (G : (Value → List Value) → (Nat → Prop) → (World → Value → List NS → Prop) → Prop) (F : Foc nsC 8 109 25 B gb 2 hd (fun w x => NSok P w x) C) (hz0 : a0.tmps.size = 500) (ar : Arr w.drew gb 78 (hd (.slice va l.length vc))) (hc : C w.drew (.slice va l.length vc) l) (hl : l.length ≤ 1000000)
    (h0 : a0.tmps[0]? = some (.pointer (some ⟨gb, 0, none⟩)))
    (h3 : a0.tmps[3]? = some (.pointer (some ⟨gO, 0, none⟩)))
    (h11 : a0.tmps[11]? = some (.int .i64 A))
    (harO : Arr w.drew gO 81 [.int .i64 Kf, .int .i64 A, .int .i64 Bf, .int .i64 Cf, .int .i64 D]) (hgO : gO ≠ gb) (hgO2 : (Value.slice va l.length vc).ownBlock ≠ some gO)
    (hA : I64 A) (hB : I64 Bf)
    (hcall : ∀ w', C w' (.slice va l.length vc) l → Arr w' gb 78 (hd (.slice va l.length vc)) → Calls Try.prog 51 #[.pointer (some ⟨gb, 0, none⟩), .int .i64 3] w' (PopK B gb (.slice va l.length vc) l G w'))
    (hend : ∀ vs w', (∃ hd1 P1 C1 g c x, G hd1 P1 C1 ∧ nsz x = 1 ∧ Lat nsC 109 gb w.drew hd1 (fun w x => NSok P1 w x) C1 (.slice va l.length vc) l g c x true w') → Q .normal (lay a0 (Lmx (tq61T gb gO A Bf Cf D va vc l.length) vs)) w') :
    (Code.region 61 tq61 true).wp Try.prog Q a0 w := by
  refine wp_region_mx (by rfl) (tq61T gb gO A Bf Cf D va vc l.length) [423, 424, 425, 426, 427, 428, 429, 430, 431, 432, 433, 434, 435, 436, 437, 438] [none, none, none, none, none, none, none, none, some 6, some 5, none, some 0, some 1, some 2, some 3, none, none, some 4] [11, 12, 13, 14, 17, 9, 8] rfl rfl rfl tq61_chk (by decide) (by decide) (by
    intro d hd
    rw [hz0]
    have : ∀ y ∈ [423, 424, 425, 426, 427, 428, 429, 430, 431, 432, 433, 434, 435, 436, 437, 438], y < 500 := by decide
    exact this _ hd) (R3 B gb w.drew hd P C (.slice va l.length vc) l G) (R3.start F ar hc) ?_ ?_
  · intro i d x hT listed vs a w' h
    match i, hT with
    | 0, hT =>
      obtain ⟨rfl, rfl⟩ := Prod.mk.inj (Option.some.inj (show some ((some 423 : Option Nat), (.inl (.pointer (some ⟨gb, 0, none⟩)) : Value ⊕ Nat)) = some (d, x) from hT))
      exact wpOp_of _ rfl rfl (v_move (.tmp 0) _ rfl (veval_of ((h.ot 0 (by decide)).trans h0)) ⟨rfl, rfl⟩)
    | 1, hT =>
      obtain ⟨rfl, rfl⟩ := Prod.mk.inj (Option.some.inj (show some ((some 424 : Option Nat), (.inl (.pointer (some ⟨gb, 0, none⟩)) : Value ⊕ Nat)) = some (d, x) from hT))
      exact wpOp_of _ rfl rfl (v_nil (.tmp 423) _ rfl (veval_of (h.val 0 423 _ rfl (by decide))) ⟨rfl, rfl⟩)
    | 2, hT =>
      obtain ⟨rfl, rfl⟩ := Prod.mk.inj (Option.some.inj (show some ((some 425 : Option Nat), (.inl (.pointer (some ⟨gb, 2, none⟩)) : Value ⊕ Nat)) = some (d, x) from hT))
      exact wpOp_of _ rfl rfl (v_f78 (.tmp 424) 2 _ 2 rfl (by decide) (veval_of (h.val 1 424 _ rfl (by decide))) ⟨rfl, rfl⟩)
    | 3, hT =>
      obtain ⟨rfl, rfl⟩ := Prod.mk.inj (Option.some.inj (show some ((some 426 : Option Nat), (.inl (.slice va l.length vc) : Value ⊕ Nat)) = some (d, x) from hT))
      have n1 := h.later 1 12 rfl 18 (by kernel_rfl)
      have q := h.r.early F n1
      exact wpOp_of _ rfl rfl (v_load25 (.tmp 425) _ _ _ rfl (veval_of (h.val 2 425 _ rfl (by decide))) q.2 ⟨rfl, rfl⟩)
    | 4, hT =>
      obtain ⟨rfl, rfl⟩ := Prod.mk.inj (Option.some.inj (show some ((some 427 : Option Nat), (.inl (.int .i64 A) : Value ⊕ Nat)) = some (d, x) from hT))
      exact wpOp_of _ rfl rfl (v_move (.tmp 11) _ rfl (veval_of ((h.ot 11 (by decide)).trans h11)) ⟨rfl, rfl⟩)
    | 5, hT =>
      obtain ⟨rfl, rfl⟩ := Prod.mk.inj (Option.some.inj (show some ((some 428 : Option Nat), (.inl (.pointer (some ⟨gO, 2, none⟩)) : Value ⊕ Nat)) = some (d, x) from hT))
      exact wpOp_of _ rfl rfl (v_f81 (.tmp 3) 2 _ 2 rfl (by decide) (veval_of ((h.ot 3 (by decide)).trans h3)) ⟨rfl, rfl⟩)
    | 6, hT =>
      obtain ⟨rfl, rfl⟩ := Prod.mk.inj (Option.some.inj (show some ((some 429 : Option Nat), (.inl (.int .i64 Bf) : Value ⊕ Nat)) = some (d, x) from hT))
      have n1 := h.later 1 12 rfl 18 (by kernel_rfl)
      have q := h.r.early F n1
      have hq : w'.cell? ⟨gO, 2, none⟩ = some (.int .i64 Bf) := (q.1.arr (fun z => z.elim hgO hgO2) harO).cell 2
      exact wpOp_of _ rfl rfl (v_load3 (.tmp 428) _ _ _ rfl (veval_of (h.val 5 428 _ rfl (by decide))) hq ⟨rfl, rfl⟩)
    | 7, hT =>
      obtain ⟨rfl, rfl⟩ := Prod.mk.inj (Option.some.inj (show some ((some 430 : Option Nat), (.inl (.pointer (some ⟨gb, 0, none⟩)) : Value ⊕ Nat)) = some (d, x) from hT))
      exact wpOp_of _ rfl rfl (v_move (.tmp 0) _ rfl (veval_of ((h.ot 0 (by decide)).trans h0)) ⟨rfl, rfl⟩)
    | 8, hT =>
      obtain ⟨rfl, rfl⟩ := Prod.mk.inj (Option.some.inj (show some ((some 431 : Option Nat), (.inr 6 : Value ⊕ Nat)) = some (d, x) from hT))
      have n6 := h.not 6 rfl
      obtain ⟨hc9, ar9, hk9⟩ := h.r.call F n6
      refine wpOp_of _ rfl rfl (v_call 51 _ _ rfl _ Try.func51 (by kernel_rfl) (by kernel_rfl) #[.pointer (some ⟨gb, 0, none⟩), .int .i64 3] (by simp [veval_of (h.val 7 430 _ rfl (by decide))]; exact ⟨rfl, rfl⟩) ((hcall w' hc9 ar9).mono ?_))
      intro e w2 hp
      obtain ⟨u, he, hR⟩ := hk9 e w2 hp
      exact ⟨u, he, _, rfl, hR⟩
    | 9, hT =>
      obtain ⟨rfl, rfl⟩ := Prod.mk.inj (Option.some.inj (show some ((some 432 : Option Nat), (.inr 5 : Value ⊕ Nat)) = some (d, x) from hT))
      have n1 := h.later 1 12 rfl 18 (by kernel_rfl)
      obtain ⟨u6, e6⟩ := h.has 6 8 rfl 18 (by kernel_rfl)
      obtain ⟨b', m', c', rfl, hR⟩ := h.r.elem n1 e6
      exact wpOp_of _ rfl rfl (v_b59 427 _ 429 _ 431 _ _ _ rfl (h.val 4 427 _ rfl (by decide)) (h.val 6 429 _ rfl (by decide)) (h.vale 8 431 6 rfl (by decide) e6) ⟨_, rfl, hR ⟨A, Bf, 0, 0, 0⟩ ⟨by first | exact hA | exact hB | simp [I64], by first | exact hA | exact hB | simp [I64], by first | exact hA | exact hB | simp [I64], by simp [I64], by simp [I64]⟩⟩)
    | 10, hT =>
      obtain ⟨rfl, rfl⟩ := Prod.mk.inj (Option.some.inj (show some ((some 433 : Option Nat), (.inl (.int .i64 ((l.length : Nat) : Int)) : Value ⊕ Nat)) = some (d, x) from hT))
      exact wpOp_of _ rfl rfl (v_len25 426 _ _ _ rfl rfl (h.val 3 426 _ rfl (by decide)) ⟨rfl, rfl⟩)
    | 11, hT =>
      obtain ⟨rfl, rfl⟩ := Prod.mk.inj (Option.some.inj (show some ((some 434 : Option Nat), (.inr 0 : Value ⊕ Nat)) = some (d, x) from hT))
      have n1 := h.later 1 12 rfl 18 (by kernel_rfl)
      exact wpOp_of _ rfl rfl (v_bz25 rfl ⟨_, rfl, h.r.alloc F n1⟩)
    | 12, hT =>
      obtain ⟨rfl, rfl⟩ := Prod.mk.inj (Option.some.inj (show some ((some 435 : Option Nat), (.inr 1 : Value ⊕ Nat)) = some (d, x) from hT))
      have n1 := h.not 1 rfl
      obtain ⟨u0, e0⟩ := h.has 0 11 rfl 18 (by kernel_rfl)
      obtain ⟨u5, e5⟩ := h.has 5 9 rfl 18 (by kernel_rfl)
      obtain ⟨u6, e6⟩ := h.has 6 8 rfl 18 (by kernel_rfl)
      obtain ⟨g', c', w2, hrun, hR⟩ := h.r.app n1 e0 e5 e6 hl
      exact wpOp_of _ rfl rfl (v_append (.tmp 426) (.tmp 434) 25 rfl _ _ _ _ (veval_of (h.val 3 426 _ rfl (by decide))) (veval_of (h.vale 11 434 0 rfl (by decide) e0)) hrun ⟨_, rfl, hR⟩)
    | 13, hT =>
      obtain ⟨rfl, rfl⟩ := Prod.mk.inj (Option.some.inj (show some ((some 436 : Option Nat), (.inr 2 : Value ⊕ Nat)) = some (d, x) from hT))
      obtain ⟨u1, e1⟩ := h.has 1 12 rfl 18 (by kernel_rfl)
      obtain ⟨g', c', rfl, hR⟩ := h.r.idx e1
      exact wpOp_of _ rfl rfl (v_idx25 (.tmp 435) (.tmp 433) _ _ _ _ rfl (veval_of (h.vale 12 435 1 rfl (by decide) e1)) (veval_of (h.val 10 433 _ rfl (by decide))) (Nat.lt_succ_self _) ⟨_, rfl, hR⟩)
    | 14, hT =>
      obtain ⟨rfl, rfl⟩ := Prod.mk.inj (Option.some.inj (show some ((none : Option Nat), (.inr 3 : Value ⊕ Nat)) = some (d, x) from hT))
      obtain ⟨u1, e1⟩ := h.has 1 12 rfl 18 (by kernel_rfl)
      obtain ⟨u2, e2⟩ := h.has 2 13 rfl 18 (by kernel_rfl)
      obtain ⟨u5, e5⟩ := h.has 5 9 rfl 18 (by kernel_rfl)
      obtain ⟨g', y, P1, rfl, rfl, ho, hcs, hfz, hR⟩ := h.r.store e1 e2 e5
      obtain ⟨ka, kc, hk, -, -⟩ := ho.2.1.form
      obtain ⟨ka2, kc2, hk2, -, -⟩ := ho.2.2.2.1.form
      obtain ⟨ka3, kc3, hk3, -, -⟩ := ho.2.2.2.2.2.1.form
      obtain ⟨yf, yk, yk2, yk3, y4, y5, y6, y7, y8, y9⟩ := y
      simp only at hk hk2 hk3
      subst hk hk2 hk3
      exact wpOp_of _ rfl rfl (v_store109 (.tmp 436) (.tmp 432) _ _ _ _ _ _ _ _ _ _ _ _ _ _ _ _ rfl rfl (veval_of (h.vale 13 436 2 rfl (by decide) e2)) (veval_of (h.vale 9 432 5 rfl (by decide) e5)) hcs hfz ⟨.bool true, rfl, hR _⟩)
    | 15, hT =>
      obtain ⟨rfl, rfl⟩ := Prod.mk.inj (Option.some.inj (show some ((some 437 : Option Nat), (.inl (.pointer (some ⟨gb, 0, none⟩)) : Value ⊕ Nat)) = some (d, x) from hT))
      exact wpOp_of _ rfl rfl (v_nil (.tmp 423) _ rfl (veval_of (h.val 0 423 _ rfl (by decide))) ⟨rfl, rfl⟩)
    | 16, hT =>
      obtain ⟨rfl, rfl⟩ := Prod.mk.inj (Option.some.inj (show some ((some 438 : Option Nat), (.inl (.pointer (some ⟨gb, 2, none⟩)) : Value ⊕ Nat)) = some (d, x) from hT))
      exact wpOp_of _ rfl rfl (v_f78 (.tmp 437) 2 _ 2 rfl (by decide) (veval_of (h.val 15 437 _ rfl (by decide))) ⟨rfl, rfl⟩)
    | 17, hT =>
      obtain ⟨rfl, rfl⟩ := Prod.mk.inj (Option.some.inj (show some ((none : Option Nat), (.inr 4 : Value ⊕ Nat)) = some (d, x) from hT))
      obtain ⟨u1, e1⟩ := h.has 1 12 rfl 18 (by kernel_rfl)
      obtain ⟨b', m', c', rfl, ⟨u', hu'⟩, hfz, hR⟩ := h.r.hdr e1
      exact wpOp_of _ rfl rfl (v_store25 (.tmp 438) (.tmp 435) _ _ _ _ _ _ rfl rfl (veval_of (h.val 16 438 _ rfl (by decide))) (veval_of (h.vale 12 435 1 rfl (by decide) e1)) hu' hfz ⟨.bool true, rfl, hR _⟩)
    | i + 18, hT => simp [tq61T] at hT
  · intro vs w' hv hR
    obtain ⟨u1, e1⟩ := hv 1 (by decide)
    obtain ⟨u3, e3⟩ := hv 3 (by decide)
    obtain ⟨u4, e4⟩ := hv 4 (by decide)
    exact hend vs w' (hR.fin e1 e3 e4)
end Go.Proofs.Qxb6500772a
