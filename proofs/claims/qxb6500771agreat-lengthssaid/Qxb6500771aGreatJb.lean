/- The drawn regions of sound and Lengths. -/
import Derived.Test.Qxb6500771aGreatJa
import Derived.Test.Qxb6500771aGreatQb
namespace Go.Qv
open Go Go.RowKit Go.Qm
set_option linter.unusedVariables false
/-- What stands while such a region runs whose last operation stores one cell. -/
structure RC (w0 : World) (V : Nat → Value → World → Prop) (kS kC g off : Nat) (vs : Nat → Option Value) (w : World) : Prop where
  a : vs kS = none → RK w0 V vs w
  b : ∀ s, vs kS = some s → ∃ u W, vs kC = some u ∧ V kC u W ∧ Keep w0 W ∧ w = W.setCell ⟨g, off, none⟩ u
section
variable {w0 w : World} {V : Nat → Value → World → Prop} {kS kC g off : Nat} {vs : Nat → Option Value}
theorem RC.of (hn : vs kS = none) (h : RK w0 V vs w) : RC w0 V kS kC g off vs w := ⟨fun _ => h, fun s hs => by rw [hn] at hs; cases hs⟩
theorem RC.st (h : RK w0 V vs w) {u : Value} (hu : vs kC = some u) (hne : kC ≠ kS) (s : Value) : RC w0 V kS kC g off (upv vs kS s) (w.setCell ⟨g, off, none⟩ u) :=
  ⟨fun hn => (by rw [upv_same] at hn; cases hn), fun _ _ => ⟨u, w, by rw [upv_ne _ _ hne]; exact hu, h.2 _ _ hu, h.1, rfl⟩⟩
end
end Go.Qv
namespace Go.Proofs.Qxb6500771aGreat
open Go Go.RowKit Go.Qm Go.Qv
set_option linter.unusedVariables false
set_option linter.unusedSimpArgs false
section
variable {o : Oper} {a : Act} {w : World} {K : Act → World → Prop} {Q : Exit → Act → World → Prop}
set_option maxRecDepth 8000 in
set_option maxHeartbeats 2000000 in
theorem v_g31 (x : Operand) (i g : Nat) (ho : o.op = .fieldAddr 31 x i) (hi : i = 1 ∨ i = 2 ∨ i = 5 ∨ i = 6 ∨ i = 9 ∨ i = 10 ∨ i = 13) (hx : a.eval x = .pointer (some ⟨g, 0, none⟩)) (h : K (a.put o.dst (.pointer (some ⟨g, i, none⟩))) w) : o.wp Tryz.prog a w K Q := by
  unfold Oper.wp execOp
  simp only [ho, hx]
  rcases hi with rfl | rfl | rfl | rfl | rfl | rfl | rfl <;> (simp [go_sem]; exact h)
theorem v_ld26 (x : Operand) (g k : Nat) (v : Value) (ho : o.op = .load 26 x) (hx : a.eval x = .pointer (some ⟨g, k, none⟩)) (hc : w.cell? ⟨g, k, none⟩ = some v) (h : K (a.put o.dst v) w) : o.wp Tryz.prog a w K Q := by
  unfold Oper.wp execOp
  simp only [ho, hx]
  simp [go_sem, hc]
  exact h
theorem v_ld5 (x : Operand) (g k : Nat) (v : Value) (ho : o.op = .load 5 x) (hx : a.eval x = .pointer (some ⟨g, k, none⟩)) (hc : w.cell? ⟨g, k, none⟩ = some v) (h : K (a.put o.dst v) w) : o.wp Tryz.prog a w K Q := by
  unfold Oper.wp execOp
  simp only [ho, hx]
  simp [go_sem, hc]
  exact h
theorem v_ld28 (x : Operand) (g k : Nat) (v : Value) (ho : o.op = .load 28 x) (hx : a.eval x = .pointer (some ⟨g, k, none⟩)) (hc : w.cell? ⟨g, k, none⟩ = some v) (h : K (a.put o.dst v) w) : o.wp Tryz.prog a w K Q := by
  unfold Oper.wp execOp
  simp only [ho, hx]
  simp [go_sem, hc]
  exact h
theorem Arr.range {w : World} {g : Nat} {t : TypeId} {cs : List Value} (h : Arr w g t cs) : w.rangeAt g 0 cs := by
  intro j v hv
  rw [Nat.zero_add, h.cell j]
  exact hv
theorem v_ld31 (x : Operand) (g : Nat) (L : List Value) (ho : o.op = .load 31 x) (hx : a.eval x = .pointer (some ⟨g, 0, none⟩)) (hA : Arr w g 31 L) (hL : L.length = 16) (h : K (a.put o.dst (.agg L.toArray)) w) : o.wp Tryz.prog a w K Q :=
  wp_load_mid 31 x ho g 0 hx L _ (Arr.range hA) Tryz.underlying31 rfl (by rw [hL]; exact siz31) h
theorem v_bs26 (ho : o.op = .buildSlice 26 0 #[]) (h : K (a.put o.dst (.slice (some ⟨w.heap.size, 0, none⟩) 0 0)) (w.alloc (.cells #[] 5))) : o.wp Tryz.prog a w K Q := by
  unfold Oper.wp execOp
  simp only [ho]
  simp [go_sem]
  exact h
theorem v_st26 (x y : Operand) (g k : Nat) (va : Option Addr) (n c : Nat) (v : Value) (ho : o.op = .store 26 x y) (hx : a.eval x = .pointer (some ⟨g, k, none⟩)) (hy : a.eval y = .slice va n c) (hc : w.cell? ⟨g, k, none⟩ = some v) (hf : w.frozen? ⟨g, k, none⟩ = false) (h : K (a.put o.dst undef) (w.setCell ⟨g, k, none⟩ (.slice va n c))) : o.wp Tryz.prog a w K Q := by
  unfold Oper.wp execOp
  simp only [ho, hx, hy]
  simp [go_sem, hc, hf]
  exact h
end
def so3 : Array Oper := #[{ dst := some 21, op := Go.Op.fieldAddr 31 (Go.Operand.tmp 1) 2, type := 0, pos := "laws.go:40", after := #[], guard := none }, { dst := some 22, op := Go.Op.load 26 (Go.Operand.tmp 21), type := 26, pos := "laws.go:40", after := #[{ on := 0, ground := Go.Ground.data }], guard := none }, { dst := some 23, op := Go.Op.fieldAddr 31 (Go.Operand.tmp 1) 1, type := 0, pos := "laws.go:40", after := #[], guard := none }, { dst := some 24, op := Go.Op.load 25 (Go.Operand.tmp 23), type := 25, pos := "laws.go:40", after := #[{ on := 2, ground := Go.Ground.data }], guard := none }, { dst := some 25, op := Go.Op.call { callee := Go.Callee.value (Go.Operand.func 22), args := #[Go.Operand.tmp 24], argTypes := #[25] }, type := 3, pos := "laws.go:40", after := #[{ on := 3, ground := Go.Ground.data }], guard := none }, { dst := some 26, op := Go.Op.call { callee := Go.Callee.value (Go.Operand.func 30), args := #[Go.Operand.tmp 22, Go.Operand.tmp 25], argTypes := #[26, 3] }, type := 26, pos := "laws.go:40", after := #[{ on := 1, ground := Go.Ground.data }, { on := 4, ground := Go.Ground.data }, { on := 4, ground := Go.Ground.chain }], guard := none }, { dst := some 27, op := Go.Op.fieldAddr 31 (Go.Operand.tmp 1) 2, type := 0, pos := "laws.go:40", after := #[{ on := 0, ground := Go.Ground.phase }, { on := 1, ground := Go.Ground.phase }, { on := 2, ground := Go.Ground.phase }, { on := 3, ground := Go.Ground.phase }, { on := 4, ground := Go.Ground.phase }, { on := 5, ground := Go.Ground.phase }], guard := none }, { dst := none, op := Go.Op.store 26 (Go.Operand.tmp 27) (Go.Operand.tmp 26), type := 0, pos := "laws.go:40", after := #[{ on := 6, ground := Go.Ground.data }, { on := 5, ground := Go.Ground.data }, { on := 5, ground := Go.Ground.chain }, { on := 0, ground := Go.Ground.phase }, { on := 1, ground := Go.Ground.phase }, { on := 2, ground := Go.Ground.phase }, { on := 3, ground := Go.Ground.phase }, { on := 4, ground := Go.Ground.phase }, { on := 5, ground := Go.Ground.phase }], guard := none }]
def so3T (g1 : Nat) (e : Int) (sa : Option Addr) (sn sc : Nat) (nk : Nat) (X : List Value) : List (Option Nat × (Value ⊕ Nat)) := [(some 21, .inl (.pointer (some ⟨g1, 2, none⟩))), (some 22, .inl (.slice sa sn sc)), (some 23, .inl (.pointer (some ⟨g1, 1, none⟩))), (some 24, .inl (.int .i32 e)), (some 25, .inr 0), (some 26, .inr 1), (some 27, .inl (.pointer (some ⟨g1, 2, none⟩))), (none, .inr 2)]
theorem so3_chk : chk so3 so3.size = true := by kernel_rfl
set_option maxRecDepth 4000 in
set_option maxHeartbeats 4000000 in
theorem so3_c {Q : Exit → Act → World → Prop} {a0 : Act} {w : World} (g1 : Nat) (e : Int) (sa : Option Addr) (sn sc : Nat) (nk : Nat) (X : List Value) (hz0 : a0.tmps.size = 49) (h1 : a0.tmps[1]? = some (.pointer (some ⟨g1, 0, none⟩))) (m0 : w.drew.cell? ⟨g1, 1, none⟩ = some (.int .i32 e)) (m1 : w.drew.cell? ⟨g1, 2, none⟩ = some (.slice sa sn sc)) (Ag1 : w.drew.heap[g1]? = some (.cells X.toArray 31 (0, 0))) (hX : X.length = 16) (VV : Nat → Value → World → Prop) (hVV : ∀ k u Z Z', Keep Z Z' → VV k u Z → VV k u Z') (k0 : ∀ (Z : World), Keep w.drew Z → Calls Tryz.prog 22 #[.int .i32 e] Z fun e w' => ∃ u, e = .returned u ∧ VV 0 u w' ∧ Keep Z w') (x0 : ∀ u Z, VV 0 u Z → u = .int .i64 (nk : Int)) (k1 : ∀ (Z : World), Keep w.drew Z → Calls Tryz.prog 30 #[.slice sa sn sc, .int .i64 (nk : Int)] Z fun e w' => ∃ u, e = .returned u ∧ VV 1 u w' ∧ Keep Z w') (s1 : ∀ u Z, VV 1 u Z → ∃ a c, u = .slice a nk c)
    (hend : ∀ vs W u, vs 1 = some u → VV 1 u W → Keep w.drew W → (∀ k < 3, ∃ u, vs k = some u) → Q .normal (lay a0 (Lmx (so3T g1 e sa sn sc nk X) vs)) (W.setCell ⟨g1, 2, none⟩ u)) :
    (Code.region 3 so3 true).wp Tryz.prog Q a0 w := by
  refine wp_region_mx (by rfl) (so3T g1 e sa sn sc nk X) [21, 22, 23, 24, 25, 26, 27] [none, none, none, none, some 0, some 1, none, some 2] [4, 5, 7] rfl rfl rfl so3_chk (by decide) (by decide) (by
    intro d hd
    rw [hz0]
    have : ∀ y ∈ [21, 22, 23, 24, 25, 26, 27], y < 49 := by decide
    exact this _ hd) (RC w.drew VV 2 1 g1 2) (RC.of rfl RK.start) ?_ ?_
  · intro i d x hT listed vs a w' h
    match i, hT with
    | 0, hT =>
      obtain ⟨rfl, rfl⟩ := Prod.mk.inj (Option.some.inj (show some ((some 21 : Option Nat), (.inl (.pointer (some ⟨g1, 2, none⟩)) : Value ⊕ Nat)) = some (d, x) from hT))
      have hN := h.later 2 7 rfl 8 (by kernel_rfl)
      have hR := h.r.a hN
      exact wpOp_of _ rfl rfl (v_g31 (.tmp 1) 2 _ rfl (by decide) (veval_of ((h.ot 1 (by decide)).trans h1)) ⟨rfl, rfl⟩)
    | 1, hT =>
      obtain ⟨rfl, rfl⟩ := Prod.mk.inj (Option.some.inj (show some ((some 22 : Option Nat), (.inl (.slice sa sn sc) : Value ⊕ Nat)) = some (d, x) from hT))
      have hN := h.later 2 7 rfl 8 (by kernel_rfl)
      have hR := h.r.a hN
      exact wpOp_of _ rfl rfl (v_ld26 (.tmp 21) _ _ _ rfl (veval_of (h.val 0 21 _ rfl (by decide))) (hR.1.cell m1) ⟨rfl, rfl⟩)
    | 2, hT =>
      obtain ⟨rfl, rfl⟩ := Prod.mk.inj (Option.some.inj (show some ((some 23 : Option Nat), (.inl (.pointer (some ⟨g1, 1, none⟩)) : Value ⊕ Nat)) = some (d, x) from hT))
      have hN := h.later 2 7 rfl 8 (by kernel_rfl)
      have hR := h.r.a hN
      exact wpOp_of _ rfl rfl (v_g31 (.tmp 1) 1 _ rfl (by decide) (veval_of ((h.ot 1 (by decide)).trans h1)) ⟨rfl, rfl⟩)
    | 3, hT =>
      obtain ⟨rfl, rfl⟩ := Prod.mk.inj (Option.some.inj (show some ((some 24 : Option Nat), (.inl (.int .i32 e) : Value ⊕ Nat)) = some (d, x) from hT))
      have hN := h.later 2 7 rfl 8 (by kernel_rfl)
      have hR := h.r.a hN
      exact wpOp_of _ rfl rfl (v_ld25 (.tmp 23) _ _ _ rfl (veval_of (h.val 2 23 _ rfl (by decide))) (hR.1.cell m0) ⟨rfl, rfl⟩)
    | 4, hT =>
      obtain ⟨rfl, rfl⟩ := Prod.mk.inj (Option.some.inj (show some ((some 25 : Option Nat), (.inr 0 : Value ⊕ Nat)) = some (d, x) from hT))
      have hN := h.later 2 7 rfl 8 (by kernel_rfl)
      have hR := h.r.a hN
      refine wpOp_of _ rfl rfl (v_call 22 _ _ rfl _ Tryz.func22 (by kernel_rfl) (by kernel_rfl) #[.int .i32 e] (by simp [veval_of (h.val 3 24 _ rfl (by decide))]; first | done | rfl | exact ⟨rfl, rfl⟩ | exact ⟨rfl, rfl, rfl⟩ | exact ⟨rfl, rfl, rfl, rfl⟩) ((k0 w' hR.1).mono ?_))
      rintro e y ⟨u, rfl, hu, kz⟩
      exact ⟨_, rfl, ⟨_, rfl, RC.of (by rw [Go.Qv.upv_ne _ _ (by decide)]; exact hN) (RK.step hR hVV kz hu)⟩⟩
    | 5, hT =>
      obtain ⟨rfl, rfl⟩ := Prod.mk.inj (Option.some.inj (show some ((some 26 : Option Nat), (.inr 1 : Value ⊕ Nat)) = some (d, x) from hT))
      have hN := h.later 2 7 rfl 8 (by kernel_rfl)
      have hR := h.r.a hN
      obtain ⟨u0, e0⟩ := h.has 0 4 rfl 8 (by kernel_rfl)
      have hv0 := hR.2 0 u0 e0
      have q0 := x0 u0 _ hv0
      rw [q0] at e0 hv0
      refine wpOp_of _ rfl rfl (v_call 30 _ _ rfl _ Tryz.func30 (by kernel_rfl) (by kernel_rfl) #[.slice sa sn sc, .int .i64 (nk : Int)] (by simp [veval_of (h.val 1 22 _ rfl (by decide)), veval_of (h.vale 4 25 0 rfl (by decide) e0)]; first | done | rfl | exact ⟨rfl, rfl⟩ | exact ⟨rfl, rfl, rfl⟩ | exact ⟨rfl, rfl, rfl, rfl⟩) ((k1 w' hR.1).mono ?_))
      rintro e y ⟨u, rfl, hu, kz⟩
      exact ⟨_, rfl, ⟨_, rfl, RC.of (by rw [Go.Qv.upv_ne _ _ (by decide)]; exact hN) (RK.step hR hVV kz hu)⟩⟩
    | 6, hT =>
      obtain ⟨rfl, rfl⟩ := Prod.mk.inj (Option.some.inj (show some ((some 27 : Option Nat), (.inl (.pointer (some ⟨g1, 2, none⟩)) : Value ⊕ Nat)) = some (d, x) from hT))
      have hN := h.later 2 7 rfl 8 (by kernel_rfl)
      have hR := h.r.a hN
      exact wpOp_of _ rfl rfl (v_g31 (.tmp 1) 2 _ rfl (by decide) (veval_of ((h.ot 1 (by decide)).trans h1)) ⟨rfl, rfl⟩)
    | 7, hT =>
      obtain ⟨rfl, rfl⟩ := Prod.mk.inj (Option.some.inj (show some ((none : Option Nat), (.inr 2 : Value ⊕ Nat)) = some (d, x) from hT))
      have hR := h.r.a (h.not 2 rfl)
      obtain ⟨u1, e1⟩ := h.has 1 5 rfl 8 (by kernel_rfl)
      have hv1 := hR.2 1 u1 e1
      obtain ⟨ta, tc, rfl⟩ := s1 u1 _ hv1
      have hA := hR.1.heap Ag1
      exact wpOp_of _ rfl rfl (v_st26 (.tmp 27) (.tmp 26) _ _ ta nk tc _ rfl (veval_of (h.val 6 27 _ rfl (by decide))) (veval_of (h.vale 5 26 1 rfl (by decide) e1)) (hR.1.cell m1) (Arr.frozen (t := 31) hA 2) ⟨_, rfl, RC.st hR e1 (by decide) _⟩)
    | i + 8, hT => simp [so3T] at hT
  · intro vs w' hv hR
    obtain ⟨s, hs⟩ := hv 2 (by decide)
    obtain ⟨u, W, h1, h2, h3, rfl⟩ := hR.b s hs
    exact hend vs W u h1 h2 h3 (fun k hk => hv k (by simpa using hk))
def so4 : Array Oper := #[{ dst := some 28, op := Go.Op.fieldAddr 31 (Go.Operand.tmp 1) 9, type := 0, pos := "laws.go:41", after := #[], guard := none }, { dst := some 29, op := Go.Op.load 26 (Go.Operand.tmp 28), type := 26, pos := "laws.go:41", after := #[{ on := 0, ground := Go.Ground.data }], guard := none }, { dst := some 30, op := Go.Op.fieldAddr 31 (Go.Operand.tmp 1) 1, type := 0, pos := "laws.go:41", after := #[], guard := none }, { dst := some 31, op := Go.Op.load 25 (Go.Operand.tmp 30), type := 25, pos := "laws.go:41", after := #[{ on := 2, ground := Go.Ground.data }], guard := none }, { dst := some 32, op := Go.Op.call { callee := Go.Callee.value (Go.Operand.func 31), args := #[Go.Operand.tmp 31], argTypes := #[25] }, type := 3, pos := "laws.go:41", after := #[{ on := 3, ground := Go.Ground.data }], guard := none }, { dst := some 33, op := Go.Op.call { callee := Go.Callee.value (Go.Operand.func 30), args := #[Go.Operand.tmp 29, Go.Operand.tmp 32], argTypes := #[26, 3] }, type := 26, pos := "laws.go:41", after := #[{ on := 1, ground := Go.Ground.data }, { on := 4, ground := Go.Ground.data }, { on := 4, ground := Go.Ground.chain }], guard := none }, { dst := some 34, op := Go.Op.fieldAddr 31 (Go.Operand.tmp 1) 9, type := 0, pos := "laws.go:41", after := #[{ on := 0, ground := Go.Ground.phase }, { on := 1, ground := Go.Ground.phase }, { on := 2, ground := Go.Ground.phase }, { on := 3, ground := Go.Ground.phase }, { on := 4, ground := Go.Ground.phase }, { on := 5, ground := Go.Ground.phase }], guard := none }, { dst := none, op := Go.Op.store 26 (Go.Operand.tmp 34) (Go.Operand.tmp 33), type := 0, pos := "laws.go:41", after := #[{ on := 6, ground := Go.Ground.data }, { on := 5, ground := Go.Ground.data }, { on := 5, ground := Go.Ground.chain }, { on := 0, ground := Go.Ground.phase }, { on := 1, ground := Go.Ground.phase }, { on := 2, ground := Go.Ground.phase }, { on := 3, ground := Go.Ground.phase }, { on := 4, ground := Go.Ground.phase }, { on := 5, ground := Go.Ground.phase }], guard := none }]
def so4T (g1 : Nat) (e : Int) (sa : Option Addr) (sn sc : Nat) (nk : Nat) (X : List Value) : List (Option Nat × (Value ⊕ Nat)) := [(some 28, .inl (.pointer (some ⟨g1, 9, none⟩))), (some 29, .inl (.slice sa sn sc)), (some 30, .inl (.pointer (some ⟨g1, 1, none⟩))), (some 31, .inl (.int .i32 e)), (some 32, .inr 0), (some 33, .inr 1), (some 34, .inl (.pointer (some ⟨g1, 9, none⟩))), (none, .inr 2)]
theorem so4_chk : chk so4 so4.size = true := by kernel_rfl
set_option maxRecDepth 4000 in
set_option maxHeartbeats 4000000 in
theorem so4_c {Q : Exit → Act → World → Prop} {a0 : Act} {w : World} (g1 : Nat) (e : Int) (sa : Option Addr) (sn sc : Nat) (nk : Nat) (X : List Value) (hz0 : a0.tmps.size = 49) (h1 : a0.tmps[1]? = some (.pointer (some ⟨g1, 0, none⟩))) (m0 : w.drew.cell? ⟨g1, 1, none⟩ = some (.int .i32 e)) (m1 : w.drew.cell? ⟨g1, 9, none⟩ = some (.slice sa sn sc)) (Ag1 : w.drew.heap[g1]? = some (.cells X.toArray 31 (0, 0))) (hX : X.length = 16) (VV : Nat → Value → World → Prop) (hVV : ∀ k u Z Z', Keep Z Z' → VV k u Z → VV k u Z') (k0 : ∀ (Z : World), Keep w.drew Z → Calls Tryz.prog 31 #[.int .i32 e] Z fun e w' => ∃ u, e = .returned u ∧ VV 0 u w' ∧ Keep Z w') (x0 : ∀ u Z, VV 0 u Z → u = .int .i64 (nk : Int)) (k1 : ∀ (Z : World), Keep w.drew Z → Calls Tryz.prog 30 #[.slice sa sn sc, .int .i64 (nk : Int)] Z fun e w' => ∃ u, e = .returned u ∧ VV 1 u w' ∧ Keep Z w') (s1 : ∀ u Z, VV 1 u Z → ∃ a c, u = .slice a nk c)
    (hend : ∀ vs W u, vs 1 = some u → VV 1 u W → Keep w.drew W → (∀ k < 3, ∃ u, vs k = some u) → Q .normal (lay a0 (Lmx (so4T g1 e sa sn sc nk X) vs)) (W.setCell ⟨g1, 9, none⟩ u)) :
    (Code.region 4 so4 true).wp Tryz.prog Q a0 w := by
  refine wp_region_mx (by rfl) (so4T g1 e sa sn sc nk X) [28, 29, 30, 31, 32, 33, 34] [none, none, none, none, some 0, some 1, none, some 2] [4, 5, 7] rfl rfl rfl so4_chk (by decide) (by decide) (by
    intro d hd
    rw [hz0]
    have : ∀ y ∈ [28, 29, 30, 31, 32, 33, 34], y < 49 := by decide
    exact this _ hd) (RC w.drew VV 2 1 g1 9) (RC.of rfl RK.start) ?_ ?_
  · intro i d x hT listed vs a w' h
    match i, hT with
    | 0, hT =>
      obtain ⟨rfl, rfl⟩ := Prod.mk.inj (Option.some.inj (show some ((some 28 : Option Nat), (.inl (.pointer (some ⟨g1, 9, none⟩)) : Value ⊕ Nat)) = some (d, x) from hT))
      have hN := h.later 2 7 rfl 8 (by kernel_rfl)
      have hR := h.r.a hN
      exact wpOp_of _ rfl rfl (v_g31 (.tmp 1) 9 _ rfl (by decide) (veval_of ((h.ot 1 (by decide)).trans h1)) ⟨rfl, rfl⟩)
    | 1, hT =>
      obtain ⟨rfl, rfl⟩ := Prod.mk.inj (Option.some.inj (show some ((some 29 : Option Nat), (.inl (.slice sa sn sc) : Value ⊕ Nat)) = some (d, x) from hT))
      have hN := h.later 2 7 rfl 8 (by kernel_rfl)
      have hR := h.r.a hN
      exact wpOp_of _ rfl rfl (v_ld26 (.tmp 28) _ _ _ rfl (veval_of (h.val 0 28 _ rfl (by decide))) (hR.1.cell m1) ⟨rfl, rfl⟩)
    | 2, hT =>
      obtain ⟨rfl, rfl⟩ := Prod.mk.inj (Option.some.inj (show some ((some 30 : Option Nat), (.inl (.pointer (some ⟨g1, 1, none⟩)) : Value ⊕ Nat)) = some (d, x) from hT))
      have hN := h.later 2 7 rfl 8 (by kernel_rfl)
      have hR := h.r.a hN
      exact wpOp_of _ rfl rfl (v_g31 (.tmp 1) 1 _ rfl (by decide) (veval_of ((h.ot 1 (by decide)).trans h1)) ⟨rfl, rfl⟩)
    | 3, hT =>
      obtain ⟨rfl, rfl⟩ := Prod.mk.inj (Option.some.inj (show some ((some 31 : Option Nat), (.inl (.int .i32 e) : Value ⊕ Nat)) = some (d, x) from hT))
      have hN := h.later 2 7 rfl 8 (by kernel_rfl)
      have hR := h.r.a hN
      exact wpOp_of _ rfl rfl (v_ld25 (.tmp 30) _ _ _ rfl (veval_of (h.val 2 30 _ rfl (by decide))) (hR.1.cell m0) ⟨rfl, rfl⟩)
    | 4, hT =>
      obtain ⟨rfl, rfl⟩ := Prod.mk.inj (Option.some.inj (show some ((some 32 : Option Nat), (.inr 0 : Value ⊕ Nat)) = some (d, x) from hT))
      have hN := h.later 2 7 rfl 8 (by kernel_rfl)
      have hR := h.r.a hN
      refine wpOp_of _ rfl rfl (v_call 31 _ _ rfl _ Tryz.func31 (by kernel_rfl) (by kernel_rfl) #[.int .i32 e] (by simp [veval_of (h.val 3 31 _ rfl (by decide))]; first | done | rfl | exact ⟨rfl, rfl⟩ | exact ⟨rfl, rfl, rfl⟩ | exact ⟨rfl, rfl, rfl, rfl⟩) ((k0 w' hR.1).mono ?_))
      rintro e y ⟨u, rfl, hu, kz⟩
      exact ⟨_, rfl, ⟨_, rfl, RC.of (by rw [Go.Qv.upv_ne _ _ (by decide)]; exact hN) (RK.step hR hVV kz hu)⟩⟩
    | 5, hT =>
      obtain ⟨rfl, rfl⟩ := Prod.mk.inj (Option.some.inj (show some ((some 33 : Option Nat), (.inr 1 : Value ⊕ Nat)) = some (d, x) from hT))
      have hN := h.later 2 7 rfl 8 (by kernel_rfl)
      have hR := h.r.a hN
      obtain ⟨u0, e0⟩ := h.has 0 4 rfl 8 (by kernel_rfl)
      have hv0 := hR.2 0 u0 e0
      have q0 := x0 u0 _ hv0
      rw [q0] at e0 hv0
      refine wpOp_of _ rfl rfl (v_call 30 _ _ rfl _ Tryz.func30 (by kernel_rfl) (by kernel_rfl) #[.slice sa sn sc, .int .i64 (nk : Int)] (by simp [veval_of (h.val 1 29 _ rfl (by decide)), veval_of (h.vale 4 32 0 rfl (by decide) e0)]; first | done | rfl | exact ⟨rfl, rfl⟩ | exact ⟨rfl, rfl, rfl⟩ | exact ⟨rfl, rfl, rfl, rfl⟩) ((k1 w' hR.1).mono ?_))
      rintro e y ⟨u, rfl, hu, kz⟩
      exact ⟨_, rfl, ⟨_, rfl, RC.of (by rw [Go.Qv.upv_ne _ _ (by decide)]; exact hN) (RK.step hR hVV kz hu)⟩⟩
    | 6, hT =>
      obtain ⟨rfl, rfl⟩ := Prod.mk.inj (Option.some.inj (show some ((some 34 : Option Nat), (.inl (.pointer (some ⟨g1, 9, none⟩)) : Value ⊕ Nat)) = some (d, x) from hT))
      have hN := h.later 2 7 rfl 8 (by kernel_rfl)
      have hR := h.r.a hN
      exact wpOp_of _ rfl rfl (v_g31 (.tmp 1) 9 _ rfl (by decide) (veval_of ((h.ot 1 (by decide)).trans h1)) ⟨rfl, rfl⟩)
    | 7, hT =>
      obtain ⟨rfl, rfl⟩ := Prod.mk.inj (Option.some.inj (show some ((none : Option Nat), (.inr 2 : Value ⊕ Nat)) = some (d, x) from hT))
      have hR := h.r.a (h.not 2 rfl)
      obtain ⟨u1, e1⟩ := h.has 1 5 rfl 8 (by kernel_rfl)
      have hv1 := hR.2 1 u1 e1
      obtain ⟨ta, tc, rfl⟩ := s1 u1 _ hv1
      have hA := hR.1.heap Ag1
      exact wpOp_of _ rfl rfl (v_st26 (.tmp 34) (.tmp 33) _ _ ta nk tc _ rfl (veval_of (h.val 6 34 _ rfl (by decide))) (veval_of (h.vale 5 33 1 rfl (by decide) e1)) (hR.1.cell m1) (Arr.frozen (t := 31) hA 9) ⟨_, rfl, RC.st hR e1 (by decide) _⟩)
    | i + 8, hT => simp [so4T] at hT
  · intro vs w' hv hR
    obtain ⟨s, hs⟩ := hv 2 (by decide)
    obtain ⟨u, W, h1, h2, h3, rfl⟩ := hR.b s hs
    exact hend vs W u h1 h2 h3 (fun k hk => hv k (by simpa using hk))
end Go.Proofs.Qxb6500771aGreat
