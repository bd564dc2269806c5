/- interpm: Exec, the end of Ctu over any frame. -/
import Derived.Test.Qxb6500772aXd
import Derived.Test.Qxb6500772aVh
namespace Go.Qm
open Go Go.RowKit
/-- A region that keeps its order; its last operation alone writes memory. -/
theorem wp_region_lin {P : Program} {ops : Array Oper} {Q : Exit → Act → World → Prop} {id : Nat} {a0 : Act} {w : World} (n : Nat) (T : List (Nat × Value)) (sl : List Nat) (hT : T.map Prod.fst = sl) (hlen : T.length = n) (hn : ops.size = n + 1) (hnd : sl.Nodup) (hsz : ∀ d ∈ sl, d < a0.tmps.size)
    (hstep : ∀ i x, T[i]? = some x → ∀ a, (∀ j y, j < i → T[j]? = some y → a.tmps[y.1]? = some y.2) → (∀ t, t ∉ sl → a.tmps[t]? = a0.tmps[t]?) → wpOp P ops Q i (fun a' w' => a' = a.put (some x.1) x.2 ∧ w' = w) a w)
    (hend : ∀ a, a.defers = a0.defers → a.tmps.size = a0.tmps.size → (∀ y ∈ T, a.tmps[y.1]? = some y.2) → (∀ t, t ∉ sl → a.tmps[t]? = a0.tmps[t]?) → wpOp P ops Q n (fun a' w' => Q .normal a' w') a w) : (Code.region id ops false).wp P Q a0 w := by
  refine wp_region ?_
  rw [hn, List.range_eq_range']
  have key : ∀ m k a, k + m = n → a.defers = a0.defers → a.tmps.size = a0.tmps.size → (∀ j y, j < k → T[j]? = some y → a.tmps[y.1]? = some y.2) → (∀ t, t ∉ sl → a.tmps[t]? = a0.tmps[t]?) → wpOps P ops Q (List.range' k (m + 1)) a w := by
    intro m
    induction m with
    | zero =>
      intro k a hk hd hs hv ho
      rw [List.range'_succ, wpOps_cons]
      obtain rfl : k = n := by omega
      refine wpOp_mono ?_ (hend a hd hs (fun y hy => ?_) ho)
      · intro a' w' h
        exact h
      · obtain ⟨i, hi, hi2⟩ := List.mem_iff_getElem.1 hy
        exact hv i y (by omega) (by rw [← hi2]; simp [hi])
    | succ m ih =>
      intro k a hk hd hs hv ho
      rw [List.range'_succ, wpOps_cons]
      have hx : T[k]? = some T[k] := List.getElem?_eq_getElem (by omega)
      have hm : T[k].1 ∈ sl := by rw [← hT]; exact List.mem_map_of_mem (List.getElem_mem _)
      refine wpOp_mono ?_ (hstep k _ hx a hv ho)
      rintro a' w' ⟨rfl, rfl⟩
      refine ih (k + 1) _ (by omega) (by rw [vdefers_put]; exact hd) (by rw [vsize_put]; exact hs) (fun j y hj hy => ?_) (fun t ht => ?_)
      · rw [vget_put, hs]
        by_cases e : j = k
        · subst e
          rw [hx] at hy
          obtain rfl := Option.some.inj hy
          rw [if_pos rfl, if_pos (hsz _ hm)]
        · rw [if_neg]
          · exact hv j y (by omega) hy
          · intro e2
            have h1 : sl[j]? = some y.1 := by rw [← hT, List.getElem?_map, hy]; rfl
            have h2 : sl[k]? = some T[k].1 := by rw [← hT, List.getElem?_map, hx]; rfl
            rw [← e2] at h1
            obtain ⟨i1, i2⟩ := List.getElem?_eq_some_iff.1 h1
            obtain ⟨j1, j2⟩ := List.getElem?_eq_some_iff.1 h2
            exact e ((List.getElem_inj (h₀ := i1) (h₁ := j1) hnd).1 (by rw [i2, j2]))
      · rw [vget_put, if_neg]
        · exact ho t ht
        · rintro rfl; exact ht hm
  exact key n 0 a0 (by omega) rfl rfl (fun j y hj => by omega) (fun _ _ => rfl)
theorem wpOp_noF {P : Program} {ops : Array Oper} {Q : Exit → Act → World → Prop} {i : Nat} {K : Act → World → Prop} {a : Act} {w : World} (o : Oper) (ho : ops[i]? = some o) (j : Nat) (oj : Oper) (hj : ops[j]? = some oj) (d : Nat) (hd : oj.dst = some d) (hg : o.guard = some (j, false)) (hv : a.tmps[d]? = some (.bool true)) (h : K (a.put o.dst undef) w) : wpOp P ops Q i K a w := by
  unfold wpOp
  rw [ho]
  have : Region.wanted o (yielded ops a.tmps) = false := by simp [Region.wanted, hg, yielded, hj, hd, hv]
  simp only [this, Bool.false_eq_true, if_false]
  exact h
theorem wpOp_yesF {P : Program} {ops : Array Oper} {Q : Exit → Act → World → Prop} {i : Nat} {K : Act → World → Prop} {a : Act} {w : World} (o : Oper) (ho : ops[i]? = some o) (j : Nat) (oj : Oper) (hj : ops[j]? = some oj) (d : Nat) (hd : oj.dst = some d) (hg : o.guard = some (j, false)) (hv : a.tmps[d]? = some (.bool false)) (h : o.wp P a w K Q) : wpOp P ops Q i K a w := by
  unfold wpOp
  rw [ho]
  have : Region.wanted o (yielded ops a.tmps) = true := by simp [Region.wanted, hg, yielded, hj, hd, hv]
  simp only [this, if_true]
  exact Or.inl h
end Go.Qm
namespace Go.Proofs.Qxb6500772a
open Go Go.RowKit Go.Qm
set_option linter.unusedVariables false
set_option linter.unusedSimpArgs false
section
variable {o : Oper} {a : Act} {w : World} {K : Act → World → Prop} {Q : Exit → Act → World → Prop}
theorem v_f37b (x : Operand) (g : Nat) (ho : o.op = .fieldAddr 37 x 1) (hx : a.eval x = .pointer (some ⟨g, 0, none⟩)) (h : K (a.put o.dst (.pointer (some ⟨g, 1, none⟩))) w) : o.wp Try.prog a w K Q := by
  unfold Oper.wp execOp
  simp only [ho, hx]
  simp [go_sem]
  exact h
theorem v_load4 (x : Operand) (g k : Nat) (v : Value) (ho : o.op = .load 4 x) (hx : a.eval x = .pointer (some ⟨g, k, none⟩)) (hc : w.cell? ⟨g, k, none⟩ = some v) (h : K (a.put o.dst v) w) : o.wp Try.prog a w K Q := by
  unfold Oper.wp execOp
  simp only [ho, hx]
  simp [go_sem, hc]
  exact h
theorem v_store4 (x y : Operand) (g k : Nat) (b : Bool) (u : Value) (ho : o.op = .store 4 x y) (hd : o.dst = none) (hx : a.eval x = .pointer (some ⟨g, k, none⟩)) (hy : a.eval y = .bool b) (hc : w.cell? ⟨g, k, none⟩ = some u) (hz : w.frozen? ⟨g, k, none⟩ = false) (h : K a (w.setCell ⟨g, k, none⟩ (.bool b))) : o.wp Try.prog a w K Q := by
  unfold Oper.wp execOp
  simp only [ho, hx, hy]
  simp [go_sem, hc, hz, hd, Act.put]
  exact h
theorem v_geq2 (x y : Operand) (m n : Int) (ho : o.op = .binOp .geq 2 x y 2) (hx : a.eval x = .int .i64 m) (hy : a.eval y = .int .i64 n) (h : K (a.put o.dst (.bool (decide (n ≤ m)))) w) : o.wp Try.prog a w K Q := by
  unfold Oper.wp execOp
  simp only [ho, hx, hy]
  simp [go_sem]
  exact h
theorem v_pkT (x y : Operand) (v : Value) (ho : o.op = .pick x (.const v) y) (hx : a.eval x = .bool true) (h : K (a.put o.dst v) w) : o.wp Try.prog a w K Q := by
  unfold Oper.wp execOp
  simp only [ho, hx]
  simp [go_sem]
  exact h
theorem v_pkF (x y : Operand) (u v : Value) (ho : o.op = .pick x (.const v) y) (hx : a.eval x = .bool false) (hy : a.eval y = u) (h : K (a.put o.dst u) w) : o.wp Try.prog a w K Q := by
  unfold Oper.wp execOp
  simp only [ho, hx, hy]
  exact h
end
def x59 : Array Oper := #[{ dst := some 473, op := Go.Op.move (Go.Operand.tmp 2), type := 59, pos := "interpm.go:183", after := #[], guard := none }, { dst := some 474, op := Go.Op.nilCheck (Go.Operand.tmp 473), type := 0, pos := "interpm.go:183", after := #[{ on := 0, ground := Go.Ground.data }], guard := none }, { dst := some 475, op := Go.Op.fieldAddr 37 (Go.Operand.tmp 474) 0, type := 0, pos := "interpm.go:183", after := #[{ on := 1, ground := Go.Ground.data }], guard := none }, { dst := some 476, op := Go.Op.load 35 (Go.Operand.tmp 475), type := 35, pos := "interpm.go:183", after := #[{ on := 2, ground := Go.Ground.data }], guard := none }, { dst := some 477, op := Go.Op.fieldAddr 109 (Go.Operand.tmp 7) 1, type := 0, pos := "interpm.go:183", after := #[], guard := none }, { dst := some 478, op := Go.Op.load 3 (Go.Operand.tmp 477), type := 3, pos := "interpm.go:183", after := #[{ on := 4, ground := Go.Ground.data }], guard := none }, { dst := some 479, op := Go.Op.move (Go.Operand.tmp 36), type := 28, pos := "interpm.go:183", after := #[], guard := none }, { dst := some 480, op := Go.Op.move (Go.Operand.tmp 35), type := 3, pos := "interpm.go:183", after := #[], guard := none }, { dst := some 481, op := Go.Op.call { callee := Go.Callee.value (Go.Operand.func 37), args := #[Go.Operand.tmp 479, Go.Operand.tmp 480], argTypes := #[28, 3] }, type := 2, pos := "interpm.go:183", after := #[{ on := 6, ground := Go.Ground.data }, { on := 7, ground := Go.Ground.data }], guard := none }, { dst := some 482, op := Go.Op.move (Go.Operand.tmp 33), type := 28, pos := "interpm.go:183", after := #[], guard := none }, { dst := some 483, op := Go.Op.move (Go.Operand.tmp 35), type := 3, pos := "interpm.go:183", after := #[], guard := none }, { dst := some 484, op := Go.Op.call { callee := Go.Callee.value (Go.Operand.func 37), args := #[Go.Operand.tmp 482, Go.Operand.tmp 483], argTypes := #[28, 3] }, type := 2, pos := "interpm.go:183", after := #[{ on := 9, ground := Go.Ground.data }, { on := 10, ground := Go.Ground.data }, { on := 8, ground := Go.Ground.chain }], guard := none }, { dst := some 485, op := Go.Op.binOp Go.BinOp.geq 2 (Go.Operand.tmp 481) (Go.Operand.tmp 484) 2, type := 4, pos := "interpm.go:183", after := #[{ on := 8, ground := Go.Ground.data }, { on := 11, ground := Go.Ground.data }], guard := none }, { dst := some 486, op := Go.Op.call { callee := Go.Callee.value (Go.Operand.func 40), args := #[Go.Operand.tmp 485], argTypes := #[4] }, type := 28, pos := "interpm.go:183", after := #[{ on := 12, ground := Go.Ground.data }, { on := 11, ground := Go.Ground.chain }], guard := none }, { dst := some 487, op := Go.Op.indexAddr 35 (Go.Operand.tmp 476) (Go.Operand.tmp 478), type := 0, pos := "interpm.go:183", after := #[{ on := 3, ground := Go.Ground.data }, { on := 5, ground := Go.Ground.data }, { on := 0, ground := Go.Ground.phase }, { on := 1, ground := Go.Ground.phase }, { on := 2, ground := Go.Ground.phase }, { on := 3, ground := Go.Ground.phase }, { on := 4, ground := Go.Ground.phase }, { on := 5, ground := Go.Ground.phase }, { on := 6, ground := Go.Ground.phase }, { on := 7, ground := Go.Ground.phase }, { on := 8, ground := Go.Ground.phase }, { on := 9, ground := Go.Ground.phase }, { on := 10, ground := Go.Ground.phase }, { on := 11, ground := Go.Ground.phase }, { on := 12, ground := Go.Ground.phase }, { on := 13, ground := Go.Ground.phase }], guard := none }, { dst := none, op := Go.Op.store 28 (Go.Operand.tmp 487) (Go.Operand.tmp 486), type := 0, pos := "interpm.go:183", after := #[{ on := 14, ground := Go.Ground.data }, { on := 13, ground := Go.Ground.data }, { on := 13, ground := Go.Ground.chain }, { on := 0, ground := Go.Ground.phase }, { on := 1, ground := Go.Ground.phase }, { on := 2, ground := Go.Ground.phase }, { on := 3, ground := Go.Ground.phase }, { on := 4, ground := Go.Ground.phase }, { on := 5, ground := Go.Ground.phase }, { on := 6, ground := Go.Ground.phase }, { on := 7, ground := Go.Ground.phase }, { on := 8, ground := Go.Ground.phase }, { on := 9, ground := Go.Ground.phase }, { on := 10, ground := Go.Ground.phase }, { on := 11, ground := Go.Ground.phase }, { on := 12, ground := Go.Ground.phase }, { on := 13, ground := Go.Ground.phase }], guard := none }]
def x59T (gS gC gQ N cap C J : Nat) (n0 n2 cv A s1 s2 : Int) : List (Option Nat × (Value ⊕ Nat)) := [(some 473, .inl (.pointer (some ⟨gS, 0, none⟩))), (some 474, .inl (.pointer (some ⟨gS, 0, none⟩))), (some 475, .inl (.pointer (some ⟨gS, 0, none⟩))), (some 476, .inl (.slice (some ⟨gC, 0, none⟩) N cap)), (some 477, .inl (.pointer (some ⟨gQ, 1, none⟩))), (some 478, .inl (.int .i64 ((C : Nat) : Int))), (some 479, .inl (.int .u64 cv)), (some 480, .inl (.int .i64 A)), (some 481, .inl (.int .i64 s1)), (some 482, .inl (.int .u64 n2)), (some 483, .inl (.int .i64 A)), (some 484, .inl (.int .i64 s2)), (some 485, .inl (.bool (decide (s2 ≤ s1)))), (some 486, .inl (.int .u64 (((decide (s2 ≤ s1)).toNat : Nat) : Int))), (some 487, .inl (.pointer (some ⟨gC, 0 + C, none⟩))), (none, .inr 0)]
theorem x59_chk : chk x59 x59.size = true := by kernel_rfl
set_option maxRecDepth 4000 in
set_option maxHeartbeats 4000000 in
theorem x59_c {Q : Exit → Act → World → Prop} {a0 : Act} {w : World} (gS gC gQ N cap C J : Nat) (n0 n2 cv A s1 s2 : Int) (hz0 : a0.tmps.size = 523) (h2 : a0.tmps[2]? = some (.pointer (some ⟨gS, 0, none⟩))) (h7 : a0.tmps[7]? = some (.pointer (some ⟨gQ, 0, none⟩))) (h33 : a0.tmps[33]? = some (.int .u64 n2)) (h35 : a0.tmps[35]? = some (.int .i64 A)) (h36 : a0.tmps[36]? = some (.int .u64 cv)) (hc1 : Pure1 37 #[.int .u64 cv, .int .i64 A] (.int .i64 s1)) (hc2 : Pure1 37 #[.int .u64 n2, .int .i64 A] (.int .i64 s2)) (hJN : C < N) (hc0 : w.drew.cell? ⟨gS, 0, none⟩ = some (.slice (some ⟨gC, 0, none⟩) N cap)) (hq1 : w.drew.cell? ⟨gQ, 1, none⟩ = some (.int .i64 ((C : Nat) : Int))) (hu : ∃ u, w.drew.cell? ⟨gC, 0 + C, none⟩ = some u) (hf : w.drew.frozen? ⟨gC, 0 + C, none⟩ = false)
    (hend : ∀ a, a.defers = a0.defers → a.tmps.size = a0.tmps.size → (∀ t, t ∉ [473, 474, 475, 476, 477, 478, 479, 480, 481, 482, 483, 484, 485, 486, 487] → a.tmps[t]? = a0.tmps[t]?) → Q .normal a (w.drew.setCell ⟨gC, 0 + C, none⟩ (.int .u64 (((decide (s2 ≤ s1)).toNat : Nat) : Int)))) :
    (Code.region 59 x59 true).wp Try.prog Q a0 w := by
  refine wp_region_mx (by rfl) (x59T gS gC gQ N cap C J n0 n2 cv A s1 s2) [473, 474, 475, 476, 477, 478, 479, 480, 481, 482, 483, 484, 485, 486, 487] [none, none, none, none, none, none, none, none, none, none, none, none, none, none, none, some 0] [15] rfl rfl rfl x59_chk (by decide) (by decide) (by
    intro d hd
    rw [hz0]
    have : ∀ y ∈ [473, 474, 475, 476, 477, 478, 479, 480, 481, 482, 483, 484, 485, 486, 487], y < 523 := by decide
    exact this _ hd) (fun vs w' => (vs 0 = none → w' = w.drew) ∧ (∀ u, vs 0 = some u → w' = w.drew.setCell ⟨gC, 0 + C, none⟩ (.int .u64 (((decide (s2 ≤ s1)).toNat : Nat) : Int)))) ⟨fun _ => rfl, (fun u h => by cases h)⟩ ?_ ?_
  · intro i d x hT listed vs a w' h
    match i, hT with
    | 0, hT =>
      obtain ⟨rfl, rfl⟩ := Prod.mk.inj (Option.some.inj (show some ((some 473 : Option Nat), (.inl (.pointer (some ⟨gS, 0, none⟩)) : Value ⊕ Nat)) = some (d, x) from hT))
      exact wpOp_of _ rfl rfl (v_move (.tmp 2) _ rfl (veval_of ((h.ot 2 (by decide)).trans h2)) ⟨rfl, rfl⟩)
    | 1, hT =>
      obtain ⟨rfl, rfl⟩ := Prod.mk.inj (Option.some.inj (show some ((some 474 : Option Nat), (.inl (.pointer (some ⟨gS, 0, none⟩)) : Value ⊕ Nat)) = some (d, x) from hT))
      exact wpOp_of _ rfl rfl (v_nil (.tmp 473) _ rfl (veval_of (h.val 0 473 _ rfl (by decide))) ⟨rfl, rfl⟩)
    | 2, hT =>
      obtain ⟨rfl, rfl⟩ := Prod.mk.inj (Option.some.inj (show some ((some 475 : Option Nat), (.inl (.pointer (some ⟨gS, 0, none⟩)) : Value ⊕ Nat)) = some (d, x) from hT))
      exact wpOp_of _ rfl rfl (v_f37 (.tmp 474) _ rfl (veval_of (h.val 1 474 _ rfl (by decide))) ⟨rfl, rfl⟩)
    | 3, hT =>
      obtain ⟨rfl, rfl⟩ := Prod.mk.inj (Option.some.inj (show some ((some 476 : Option Nat), (.inl (.slice (some ⟨gC, 0, none⟩) N cap) : Value ⊕ Nat)) = some (d, x) from hT))
      have hw := h.r.1 (h.later 0 15 rfl 16 (by kernel_rfl))
      subst hw
      exact wpOp_of _ rfl rfl (v_load35 (.tmp 475) _ _ _ rfl (veval_of (h.val 2 475 _ rfl (by decide))) hc0 ⟨rfl, rfl⟩)
    | 4, hT =>
      obtain ⟨rfl, rfl⟩ := Prod.mk.inj (Option.some.inj (show some ((some 477 : Option Nat), (.inl (.pointer (some ⟨gQ, 1, none⟩)) : Value ⊕ Nat)) = some (d, x) from hT))
      exact wpOp_of _ rfl rfl (v_f109 (.tmp 7) _ rfl (veval_of ((h.ot 7 (by decide)).trans h7)) ⟨rfl, rfl⟩)
    | 5, hT =>
      obtain ⟨rfl, rfl⟩ := Prod.mk.inj (Option.some.inj (show some ((some 478 : Option Nat), (.inl (.int .i64 ((C : Nat) : Int)) : Value ⊕ Nat)) = some (d, x) from hT))
      have hw := h.r.1 (h.later 0 15 rfl 16 (by kernel_rfl))
      subst hw
      exact wpOp_of _ rfl rfl (v_load3 (.tmp 477) _ _ _ rfl (veval_of (h.val 4 477 _ rfl (by decide))) hq1 ⟨rfl, rfl⟩)
    | 6, hT =>
      obtain ⟨rfl, rfl⟩ := Prod.mk.inj (Option.some.inj (show some ((some 479 : Option Nat), (.inl (.int .u64 cv) : Value ⊕ Nat)) = some (d, x) from hT))
      exact wpOp_of _ rfl rfl (v_move (.tmp 36) _ rfl (veval_of ((h.ot 36 (by decide)).trans h36)) ⟨rfl, rfl⟩)
    | 7, hT =>
      obtain ⟨rfl, rfl⟩ := Prod.mk.inj (Option.some.inj (show some ((some 480 : Option Nat), (.inl (.int .i64 A) : Value ⊕ Nat)) = some (d, x) from hT))
      exact wpOp_of _ rfl rfl (v_move (.tmp 35) _ rfl (veval_of ((h.ot 35 (by decide)).trans h35)) ⟨rfl, rfl⟩)
    | 8, hT =>
      obtain ⟨rfl, rfl⟩ := Prod.mk.inj (Option.some.inj (show some ((some 481 : Option Nat), (.inl (.int .i64 s1) : Value ⊕ Nat)) = some (d, x) from hT))
      refine wpOp_of _ rfl rfl (v_call 37 _ _ rfl _ Try.func37 (by kernel_rfl) (by kernel_rfl) #[.int .u64 cv, .int .i64 A] (by simp [veval_of (h.val 6 479 _ rfl (by decide)), veval_of (h.val 7 480 _ rfl (by decide))]; exact ⟨rfl, rfl⟩) ((hc1 _).mono ?_))
      rintro e y ⟨rfl, rfl⟩
      exact ⟨_, rfl, rfl, rfl⟩
    | 9, hT =>
      obtain ⟨rfl, rfl⟩ := Prod.mk.inj (Option.some.inj (show some ((some 482 : Option Nat), (.inl (.int .u64 n2) : Value ⊕ Nat)) = some (d, x) from hT))
      exact wpOp_of _ rfl rfl (v_move (.tmp 33) _ rfl (veval_of ((h.ot 33 (by decide)).trans h33)) ⟨rfl, rfl⟩)
    | 10, hT =>
      obtain ⟨rfl, rfl⟩ := Prod.mk.inj (Option.some.inj (show some ((some 483 : Option Nat), (.inl (.int .i64 A) : Value ⊕ Nat)) = some (d, x) from hT))
      exact wpOp_of _ rfl rfl (v_move (.tmp 35) _ rfl (veval_of ((h.ot 35 (by decide)).trans h35)) ⟨rfl, rfl⟩)
    | 11, hT =>
      obtain ⟨rfl, rfl⟩ := Prod.mk.inj (Option.some.inj (show some ((some 484 : Option Nat), (.inl (.int .i64 s2) : Value ⊕ Nat)) = some (d, x) from hT))
      refine wpOp_of _ rfl rfl (v_call 37 _ _ rfl _ Try.func37 (by kernel_rfl) (by kernel_rfl) #[.int .u64 n2, .int .i64 A] (by simp [veval_of (h.val 9 482 _ rfl (by decide)), veval_of (h.val 10 483 _ rfl (by decide))]; exact ⟨rfl, rfl⟩) ((hc2 _).mono ?_))
      rintro e y ⟨rfl, rfl⟩
      exact ⟨_, rfl, rfl, rfl⟩
    | 12, hT =>
      obtain ⟨rfl, rfl⟩ := Prod.mk.inj (Option.some.inj (show some ((some 485 : Option Nat), (.inl (.bool (decide (s2 ≤ s1))) : Value ⊕ Nat)) = some (d, x) from hT))
      exact wpOp_of _ rfl rfl (v_geq2 (.tmp 481) (.tmp 484) _ _ rfl (veval_of (h.val 8 481 _ rfl (by decide))) (veval_of (h.val 11 484 _ rfl (by decide))) ⟨rfl, rfl⟩)
    | 13, hT =>
      obtain ⟨rfl, rfl⟩ := Prod.mk.inj (Option.some.inj (show some ((some 486 : Option Nat), (.inl (.int .u64 (((decide (s2 ≤ s1)).toNat : Nat) : Int)) : Value ⊕ Nat)) = some (d, x) from hT))
      refine wpOp_of _ rfl rfl (v_call 40 _ _ rfl _ Try.func40 (by kernel_rfl) (by kernel_rfl) #[.bool (decide (s2 ≤ s1))] (by simp [veval_of (h.val 12 485 _ rfl (by decide))]; rfl) (((truth_c (decide (s2 ≤ s1))) _).mono ?_))
      rintro e y ⟨rfl, rfl⟩
      exact ⟨_, rfl, rfl, rfl⟩
    | 14, hT =>
      obtain ⟨rfl, rfl⟩ := Prod.mk.inj (Option.some.inj (show some ((some 487 : Option Nat), (.inl (.pointer (some ⟨gC, 0 + C, none⟩)) : Value ⊕ Nat)) = some (d, x) from hT))
      exact wpOp_of _ rfl rfl (v_index35 (.tmp 476) (.tmp 478) _ _ _ _ _ rfl (veval_of (h.val 3 476 _ rfl (by decide))) (veval_of (h.val 5 478 _ rfl (by decide))) hJN ⟨rfl, rfl⟩)
    | 15, hT =>
      obtain ⟨rfl, rfl⟩ := Prod.mk.inj (Option.some.inj (show some ((none : Option Nat), (.inr 0 : Value ⊕ Nat)) = some (d, x) from hT))
      have hw := h.r.1 (h.not 0 rfl)
      subst hw
      obtain ⟨u, hu⟩ := hu
      exact wpOp_of _ rfl rfl (v_store28 (.tmp 487) (.tmp 486) _ _ _ u rfl rfl (veval_of (h.val 14 487 _ rfl (by decide))) (veval_of (h.val 13 486 _ rfl (by decide))) hu hf ⟨.bool true, rfl, (fun e => by cases e), fun _ _ => rfl⟩)
    | i + 16, hT => simp [x59T] at hT
  · intro vs w' hv hR
    obtain ⟨u, e⟩ := hv 0 (by decide)
    rw [hR.2 u e]
    refine hend _ (lay_defers _ _) ?_ (fun x hx => lay_other _ a0 x (by rw [lmx_fst]; exact hx))
    rw [lay_size]
def x60 : Array Oper := #[{ dst := some 488, op := Go.Op.move (Go.Operand.tmp 2), type := 59, pos := "interpm.go:184", after := #[], guard := none }, { dst := some 489, op := Go.Op.nilCheck (Go.Operand.tmp 488), type := 0, pos := "interpm.go:184", after := #[{ on := 0, ground := Go.Ground.data }], guard := none }, { dst := some 490, op := Go.Op.fieldAddr 37 (Go.Operand.tmp 489) 0, type := 0, pos := "interpm.go:184", after := #[{ on := 1, ground := Go.Ground.data }], guard := none }, { dst := some 491, op := Go.Op.load 35 (Go.Operand.tmp 490), type := 35, pos := "interpm.go:184", after := #[{ on := 2, ground := Go.Ground.data }], guard := none }, { dst := some 492, op := Go.Op.fieldAddr 109 (Go.Operand.tmp 7) 1, type := 0, pos := "interpm.go:184", after := #[], guard := none }, { dst := some 493, op := Go.Op.load 3 (Go.Operand.tmp 492), type := 3, pos := "interpm.go:184", after := #[{ on := 4, ground := Go.Ground.data }], guard := none }, { dst := some 494, op := Go.Op.binOp Go.BinOp.add 3 (Go.Operand.tmp 493) (Go.Operand.const (Go.Value.int Go.IntKind.i64 1)) 3, type := 3, pos := "interpm.go:184", after := #[{ on := 5, ground := Go.Ground.data }], guard := none }, { dst := some 495, op := Go.Op.move (Go.Operand.tmp 36), type := 28, pos := "interpm.go:184", after := #[], guard := none }, { dst := some 496, op := Go.Op.indexAddr 35 (Go.Operand.tmp 491) (Go.Operand.tmp 494), type := 0, pos := "interpm.go:184", after := #[{ on := 3, ground := Go.Ground.data }, { on := 6, ground := Go.Ground.data }, { on := 0, ground := Go.Ground.phase }, { on := 1, ground := Go.Ground.phase }, { on := 2, ground := Go.Ground.phase }, { on := 3, ground := Go.Ground.phase }, { on := 4, ground := Go.Ground.phase }, { on := 5, ground := Go.Ground.phase }, { on := 6, ground := Go.Ground.phase }, { on := 7, ground := Go.Ground.phase }], guard := none }, { dst := none, op := Go.Op.store 28 (Go.Operand.tmp 496) (Go.Operand.tmp 495), type := 0, pos := "interpm.go:184", after := #[{ on := 8, ground := Go.Ground.data }, { on := 7, ground := Go.Ground.data }, { on := 0, ground := Go.Ground.phase }, { on := 1, ground := Go.Ground.phase }, { on := 2, ground := Go.Ground.phase }, { on := 3, ground := Go.Ground.phase }, { on := 4, ground := Go.Ground.phase }, { on := 5, ground := Go.Ground.phase }, { on := 6, ground := Go.Ground.phase }, { on := 7, ground := Go.Ground.phase }], guard := none }]
def x60T (gS gC gQ N cap C J : Nat) (n0 n2 cv A s1 s2 : Int) : List (Option Nat × (Value ⊕ Nat)) := [(some 488, .inl (.pointer (some ⟨gS, 0, none⟩))), (some 489, .inl (.pointer (some ⟨gS, 0, none⟩))), (some 490, .inl (.pointer (some ⟨gS, 0, none⟩))), (some 491, .inl (.slice (some ⟨gC, 0, none⟩) N cap)), (some 492, .inl (.pointer (some ⟨gQ, 1, none⟩))), (some 493, .inl (.int .i64 ((C : Nat) : Int))), (some 494, .inl (.int .i64 ((J : Nat) : Int))), (some 495, .inl (.int .u64 cv)), (some 496, .inl (.pointer (some ⟨gC, 0 + J, none⟩))), (none, .inr 0)]
theorem x60_chk : chk x60 x60.size = true := by kernel_rfl
set_option maxRecDepth 4000 in
set_option maxHeartbeats 4000000 in
theorem x60_c {Q : Exit → Act → World → Prop} {a0 : Act} {w : World} (gS gC gQ N cap C J : Nat) (n0 n2 cv A s1 s2 : Int) (hz0 : a0.tmps.size = 523) (h2 : a0.tmps[2]? = some (.pointer (some ⟨gS, 0, none⟩))) (h7 : a0.tmps[7]? = some (.pointer (some ⟨gQ, 0, none⟩))) (h36 : a0.tmps[36]? = some (.int .u64 cv)) (hJ : IntKind.i64.wrap ((C : Int) + 1) = ((J : Nat) : Int)) (hJN : J < N) (hc0 : w.drew.cell? ⟨gS, 0, none⟩ = some (.slice (some ⟨gC, 0, none⟩) N cap)) (hq1 : w.drew.cell? ⟨gQ, 1, none⟩ = some (.int .i64 ((C : Nat) : Int))) (hu : ∃ u, w.drew.cell? ⟨gC, 0 + J, none⟩ = some u) (hf : w.drew.frozen? ⟨gC, 0 + J, none⟩ = false)
    (hend : ∀ a, a.defers = a0.defers → a.tmps.size = a0.tmps.size → (∀ t, t ∉ [488, 489, 490, 491, 492, 493, 494, 495, 496] → a.tmps[t]? = a0.tmps[t]?) → Q .normal a (w.drew.setCell ⟨gC, 0 + J, none⟩ (.int .u64 cv))) :
    (Code.region 60 x60 true).wp Try.prog Q a0 w := by
  refine wp_region_mx (by rfl) (x60T gS gC gQ N cap C J n0 n2 cv A s1 s2) [488, 489, 490, 491, 492, 493, 494, 495, 496] [none, none, none, none, none, none, none, none, none, some 0] [9] rfl rfl rfl x60_chk (by decide) (by decide) (by
    intro d hd
    rw [hz0]
    have : ∀ y ∈ [488, 489, 490, 491, 492, 493, 494, 495, 496], y < 523 := by decide
    exact this _ hd) (fun vs w' => (vs 0 = none → w' = w.drew) ∧ (∀ u, vs 0 = some u → w' = w.drew.setCell ⟨gC, 0 + J, none⟩ (.int .u64 cv))) ⟨fun _ => rfl, (fun u h => by cases h)⟩ ?_ ?_
  · intro i d x hT listed vs a w' h
    match i, hT with
    | 0, hT =>
      obtain ⟨rfl, rfl⟩ := Prod.mk.inj (Option.some.inj (show some ((some 488 : Option Nat), (.inl (.pointer (some ⟨gS, 0, none⟩)) : Value ⊕ Nat)) = some (d, x) from hT))
      exact wpOp_of _ rfl rfl (v_move (.tmp 2) _ rfl (veval_of ((h.ot 2 (by decide)).trans h2)) ⟨rfl, rfl⟩)
    | 1, hT =>
      obtain ⟨rfl, rfl⟩ := Prod.mk.inj (Option.some.inj (show some ((some 489 : Option Nat), (.inl (.pointer (some ⟨gS, 0, none⟩)) : Value ⊕ Nat)) = some (d, x) from hT))
      exact wpOp_of _ rfl rfl (v_nil (.tmp 488) _ rfl (veval_of (h.val 0 488 _ rfl (by decide))) ⟨rfl, rfl⟩)
    | 2, hT =>
      obtain ⟨rfl, rfl⟩ := Prod.mk.inj (Option.some.inj (show some ((some 490 : Option Nat), (.inl (.pointer (some ⟨gS, 0, none⟩)) : Value ⊕ Nat)) = some (d, x) from hT))
      exact wpOp_of _ rfl rfl (v_f37 (.tmp 489) _ rfl (veval_of (h.val 1 489 _ rfl (by decide))) ⟨rfl, rfl⟩)
    | 3, hT =>
      obtain ⟨rfl, rfl⟩ := Prod.mk.inj (Option.some.inj (show some ((some 491 : Option Nat), (.inl (.slice (some ⟨gC, 0, none⟩) N cap) : Value ⊕ Nat)) = some (d, x) from hT))
      have hw := h.r.1 (h.later 0 9 rfl 10 (by kernel_rfl))
      subst hw
      exact wpOp_of _ rfl rfl (v_load35 (.tmp 490) _ _ _ rfl (veval_of (h.val 2 490 _ rfl (by decide))) hc0 ⟨rfl, rfl⟩)
    | 4, hT =>
      obtain ⟨rfl, rfl⟩ := Prod.mk.inj (Option.some.inj (show some ((some 492 : Option Nat), (.inl (.pointer (some ⟨gQ, 1, none⟩)) : Value ⊕ Nat)) = some (d, x) from hT))
      exact wpOp_of _ rfl rfl (v_f109 (.tmp 7) _ rfl (veval_of ((h.ot 7 (by decide)).trans h7)) ⟨rfl, rfl⟩)
    | 5, hT =>
      obtain ⟨rfl, rfl⟩ := Prod.mk.inj (Option.some.inj (show some ((some 493 : Option Nat), (.inl (.int .i64 ((C : Nat) : Int)) : Value ⊕ Nat)) = some (d, x) from hT))
      have hw := h.r.1 (h.later 0 9 rfl 10 (by kernel_rfl))
      subst hw
      exact wpOp_of _ rfl rfl (v_load3 (.tmp 492) _ _ _ rfl (veval_of (h.val 4 492 _ rfl (by decide))) hq1 ⟨rfl, rfl⟩)
    | 6, hT =>
      obtain ⟨rfl, rfl⟩ := Prod.mk.inj (Option.some.inj (show some ((some 494 : Option Nat), (.inl (.int .i64 ((J : Nat) : Int)) : Value ⊕ Nat)) = some (d, x) from hT))
      exact wpOp_of _ rfl rfl (v_addi (.tmp 493) _ _ _ _ rfl (veval_of (h.val 5 493 _ rfl (by decide))) rfl hJ ⟨rfl, rfl⟩)
    | 7, hT =>
      obtain ⟨rfl, rfl⟩ := Prod.mk.inj (Option.some.inj (show some ((some 495 : Option Nat), (.inl (.int .u64 cv) : Value ⊕ Nat)) = some (d, x) from hT))
      exact wpOp_of _ rfl rfl (v_move (.tmp 36) _ rfl (veval_of ((h.ot 36 (by decide)).trans h36)) ⟨rfl, rfl⟩)
    | 8, hT =>
      obtain ⟨rfl, rfl⟩ := Prod.mk.inj (Option.some.inj (show some ((some 496 : Option Nat), (.inl (.pointer (some ⟨gC, 0 + J, none⟩)) : Value ⊕ Nat)) = some (d, x) from hT))
      exact wpOp_of _ rfl rfl (v_index35 (.tmp 491) (.tmp 494) _ _ _ _ _ rfl (veval_of (h.val 3 491 _ rfl (by decide))) (veval_of (h.val 6 494 _ rfl (by decide))) hJN ⟨rfl, rfl⟩)
    | 9, hT =>
      obtain ⟨rfl, rfl⟩ := Prod.mk.inj (Option.some.inj (show some ((none : Option Nat), (.inr 0 : Value ⊕ Nat)) = some (d, x) from hT))
      have hw := h.r.1 (h.not 0 rfl)
      subst hw
      obtain ⟨u, hu⟩ := hu
      exact wpOp_of _ rfl rfl (v_store28 (.tmp 496) (.tmp 495) _ _ _ u rfl rfl (veval_of (h.val 8 496 _ rfl (by decide))) (veval_of (h.val 7 495 _ rfl (by decide))) hu hf ⟨.bool true, rfl, (fun e => by cases e), fun _ _ => rfl⟩)
    | i + 10, hT => simp [x60T] at hT
  · intro vs w' hv hR
    obtain ⟨u, e⟩ := hv 0 (by decide)
    rw [hR.2 u e]
    refine hend _ (lay_defers _ _) ?_ (fun x hx => lay_other _ a0 x (by rw [lmx_fst]; exact hx))
    rw [lay_size]
def x61 : Array Oper := #[{ dst := some 497, op := Go.Op.move (Go.Operand.tmp 2), type := 59, pos := "interpm.go:185", after := #[], guard := none }, { dst := some 498, op := Go.Op.nilCheck (Go.Operand.tmp 497), type := 0, pos := "interpm.go:185", after := #[{ on := 0, ground := Go.Ground.data }], guard := none }, { dst := some 499, op := Go.Op.fieldAddr 37 (Go.Operand.tmp 498) 0, type := 0, pos := "interpm.go:185", after := #[{ on := 1, ground := Go.Ground.data }], guard := none }, { dst := some 500, op := Go.Op.load 35 (Go.Operand.tmp 499), type := 35, pos := "interpm.go:185", after := #[{ on := 2, ground := Go.Ground.data }], guard := none }, { dst := some 501, op := Go.Op.fieldAddr 109 (Go.Operand.tmp 7) 1, type := 0, pos := "interpm.go:185", after := #[], guard := none }, { dst := some 502, op := Go.Op.load 3 (Go.Operand.tmp 501), type := 3, pos := "interpm.go:185", after := #[{ on := 4, ground := Go.Ground.data }], guard := none }, { dst := some 503, op := Go.Op.binOp Go.BinOp.add 3 (Go.Operand.tmp 502) (Go.Operand.const (Go.Value.int Go.IntKind.i64 2)) 3, type := 3, pos := "interpm.go:185", after := #[{ on := 5, ground := Go.Ground.data }], guard := none }, { dst := some 504, op := Go.Op.move (Go.Operand.tmp 29), type := 28, pos := "interpm.go:185", after := #[], guard := none }, { dst := some 505, op := Go.Op.indexAddr 35 (Go.Operand.tmp 500) (Go.Operand.tmp 503), type := 0, pos := "interpm.go:185", after := #[{ on := 3, ground := Go.Ground.data }, { on := 6, ground := Go.Ground.data }, { on := 0, ground := Go.Ground.phase }, { on := 1, ground := Go.Ground.phase }, { on := 2, ground := Go.Ground.phase }, { on := 3, ground := Go.Ground.phase }, { on := 4, ground := Go.Ground.phase }, { on := 5, ground := Go.Ground.phase }, { on := 6, ground := Go.Ground.phase }, { on := 7, ground := Go.Ground.phase }], guard := none }, { dst := none, op := Go.Op.store 28 (Go.Operand.tmp 505) (Go.Operand.tmp 504), type := 0, pos := "interpm.go:185", after := #[{ on := 8, ground := Go.Ground.data }, { on := 7, ground := Go.Ground.data }, { on := 0, ground := Go.Ground.phase }, { on := 1, ground := Go.Ground.phase }, { on := 2, ground := Go.Ground.phase }, { on := 3, ground := Go.Ground.phase }, { on := 4, ground := Go.Ground.phase }, { on := 5, ground := Go.Ground.phase }, { on := 6, ground := Go.Ground.phase }, { on := 7, ground := Go.Ground.phase }], guard := none }]
def x61T (gS gC gQ N cap C J : Nat) (n0 n2 cv A s1 s2 : Int) : List (Option Nat × (Value ⊕ Nat)) := [(some 497, .inl (.pointer (some ⟨gS, 0, none⟩))), (some 498, .inl (.pointer (some ⟨gS, 0, none⟩))), (some 499, .inl (.pointer (some ⟨gS, 0, none⟩))), (some 500, .inl (.slice (some ⟨gC, 0, none⟩) N cap)), (some 501, .inl (.pointer (some ⟨gQ, 1, none⟩))), (some 502, .inl (.int .i64 ((C : Nat) : Int))), (some 503, .inl (.int .i64 ((J : Nat) : Int))), (some 504, .inl (.int .u64 n0)), (some 505, .inl (.pointer (some ⟨gC, 0 + J, none⟩))), (none, .inr 0)]
theorem x61_chk : chk x61 x61.size = true := by kernel_rfl
set_option maxRecDepth 4000 in
set_option maxHeartbeats 4000000 in
theorem x61_c {Q : Exit → Act → World → Prop} {a0 : Act} {w : World} (gS gC gQ N cap C J : Nat) (n0 n2 cv A s1 s2 : Int) (hz0 : a0.tmps.size = 523) (h2 : a0.tmps[2]? = some (.pointer (some ⟨gS, 0, none⟩))) (h7 : a0.tmps[7]? = some (.pointer (some ⟨gQ, 0, none⟩))) (h29 : a0.tmps[29]? = some (.int .u64 n0)) (hJ : IntKind.i64.wrap ((C : Int) + 2) = ((J : Nat) : Int)) (hJN : J < N) (hc0 : w.drew.cell? ⟨gS, 0, none⟩ = some (.slice (some ⟨gC, 0, none⟩) N cap)) (hq1 : w.drew.cell? ⟨gQ, 1, none⟩ = some (.int .i64 ((C : Nat) : Int))) (hu : ∃ u, w.drew.cell? ⟨gC, 0 + J, none⟩ = some u) (hf : w.drew.frozen? ⟨gC, 0 + J, none⟩ = false)
    (hend : ∀ a, a.defers = a0.defers → a.tmps.size = a0.tmps.size → (∀ t, t ∉ [497, 498, 499, 500, 501, 502, 503, 504, 505] → a.tmps[t]? = a0.tmps[t]?) → Q .normal a (w.drew.setCell ⟨gC, 0 + J, none⟩ (.int .u64 n0))) :
    (Code.region 61 x61 true).wp Try.prog Q a0 w := by
  refine wp_region_mx (by rfl) (x61T gS gC gQ N cap C J n0 n2 cv A s1 s2) [497, 498, 499, 500, 501, 502, 503, 504, 505] [none, none, none, none, none, none, none, none, none, some 0] [9] rfl rfl rfl x61_chk (by decide) (by decide) (by
    intro d hd
    rw [hz0]
    have : ∀ y ∈ [497, 498, 499, 500, 501, 502, 503, 504, 505], y < 523 := by decide
    exact this _ hd) (fun vs w' => (vs 0 = none → w' = w.drew) ∧ (∀ u, vs 0 = some u → w' = w.drew.setCell ⟨gC, 0 + J, none⟩ (.int .u64 n0))) ⟨fun _ => rfl, (fun u h => by cases h)⟩ ?_ ?_
  · intro i d x hT listed vs a w' h
    match i, hT with
    | 0, hT =>
      obtain ⟨rfl, rfl⟩ := Prod.mk.inj (Option.some.inj (show some ((some 497 : Option Nat), (.inl (.pointer (some ⟨gS, 0, none⟩)) : Value ⊕ Nat)) = some (d, x) from hT))
      exact wpOp_of _ rfl rfl (v_move (.tmp 2) _ rfl (veval_of ((h.ot 2 (by decide)).trans h2)) ⟨rfl, rfl⟩)
    | 1, hT =>
      obtain ⟨rfl, rfl⟩ := Prod.mk.inj (Option.some.inj (show some ((some 498 : Option Nat), (.inl (.pointer (some ⟨gS, 0, none⟩)) : Value ⊕ Nat)) = some (d, x) from hT))
      exact wpOp_of _ rfl rfl (v_nil (.tmp 497) _ rfl (veval_of (h.val 0 497 _ rfl (by decide))) ⟨rfl, rfl⟩)
    | 2, hT =>
      obtain ⟨rfl, rfl⟩ := Prod.mk.inj (Option.some.inj (show some ((some 499 : Option Nat), (.inl (.pointer (some ⟨gS, 0, none⟩)) : Value ⊕ Nat)) = some (d, x) from hT))
      exact wpOp_of _ rfl rfl (v_f37 (.tmp 498) _ rfl (veval_of (h.val 1 498 _ rfl (by decide))) ⟨rfl, rfl⟩)
    | 3, hT =>
      obtain ⟨rfl, rfl⟩ := Prod.mk.inj (Option.some.inj (show some ((some 500 : Option Nat), (.inl (.slice (some ⟨gC, 0, none⟩) N cap) : Value ⊕ Nat)) = some (d, x) from hT))
      have hw := h.r.1 (h.later 0 9 rfl 10 (by kernel_rfl))
      subst hw
      exact wpOp_of _ rfl rfl (v_load35 (.tmp 499) _ _ _ rfl (veval_of (h.val 2 499 _ rfl (by decide))) hc0 ⟨rfl, rfl⟩)
    | 4, hT =>
      obtain ⟨rfl, rfl⟩ := Prod.mk.inj (Option.some.inj (show some ((some 501 : Option Nat), (.inl (.pointer (some ⟨gQ, 1, none⟩)) : Value ⊕ Nat)) = some (d, x) from hT))
      exact wpOp_of _ rfl rfl (v_f109 (.tmp 7) _ rfl (veval_of ((h.ot 7 (by decide)).trans h7)) ⟨rfl, rfl⟩)
    | 5, hT =>
      obtain ⟨rfl, rfl⟩ := Prod.mk.inj (Option.some.inj (show some ((some 502 : Option Nat), (.inl (.int .i64 ((C : Nat) : Int)) : Value ⊕ Nat)) = some (d, x) from hT))
      have hw := h.r.1 (h.later 0 9 rfl 10 (by kernel_rfl))
      subst hw
      exact wpOp_of _ rfl rfl (v_load3 (.tmp 501) _ _ _ rfl (veval_of (h.val 4 501 _ rfl (by decide))) hq1 ⟨rfl, rfl⟩)
    | 6, hT =>
      obtain ⟨rfl, rfl⟩ := Prod.mk.inj (Option.some.inj (show some ((some 503 : Option Nat), (.inl (.int .i64 ((J : Nat) : Int)) : Value ⊕ Nat)) = some (d, x) from hT))
      exact wpOp_of _ rfl rfl (v_addi (.tmp 502) _ _ _ _ rfl (veval_of (h.val 5 502 _ rfl (by decide))) rfl hJ ⟨rfl, rfl⟩)
    | 7, hT =>
      obtain ⟨rfl, rfl⟩ := Prod.mk.inj (Option.some.inj (show some ((some 504 : Option Nat), (.inl (.int .u64 n0) : Value ⊕ Nat)) = some (d, x) from hT))
      exact wpOp_of _ rfl rfl (v_move (.tmp 29) _ rfl (veval_of ((h.ot 29 (by decide)).trans h29)) ⟨rfl, rfl⟩)
    | 8, hT =>
      obtain ⟨rfl, rfl⟩ := Prod.mk.inj (Option.some.inj (show some ((some 505 : Option Nat), (.inl (.pointer (some ⟨gC, 0 + J, none⟩)) : Value ⊕ Nat)) = some (d, x) from hT))
      exact wpOp_of _ rfl rfl (v_index35 (.tmp 500) (.tmp 503) _ _ _ _ _ rfl (veval_of (h.val 3 500 _ rfl (by decide))) (veval_of (h.val 6 503 _ rfl (by decide))) hJN ⟨rfl, rfl⟩)
    | 9, hT =>
      obtain ⟨rfl, rfl⟩ := Prod.mk.inj (Option.some.inj (show some ((none : Option Nat), (.inr 0 : Value ⊕ Nat)) = some (d, x) from hT))
      have hw := h.r.1 (h.not 0 rfl)
      subst hw
      obtain ⟨u, hu⟩ := hu
      exact wpOp_of _ rfl rfl (v_store28 (.tmp 505) (.tmp 504) _ _ _ u rfl rfl (veval_of (h.val 8 505 _ rfl (by decide))) (veval_of (h.val 7 504 _ rfl (by decide))) hu hf ⟨.bool true, rfl, (fun e => by cases e), fun _ _ => rfl⟩)
    | i + 10, hT => simp [x61T] at hT
  · intro vs w' hv hR
    obtain ⟨u, e⟩ := hv 0 (by decide)
    rw [hR.2 u e]
    refine hend _ (lay_defers _ _) ?_ (fun x hx => lay_other _ a0 x (by rw [lmx_fst]; exact hx))
    rw [lay_size]
def x62 : Array Oper := #[{ dst := some 506, op := Go.Op.move (Go.Operand.tmp 2), type := 59, pos := "interpm.go:186", after := #[], guard := none }, { dst := some 507, op := Go.Op.move (Go.Operand.tmp 2), type := 59, pos := "interpm.go:186", after := #[], guard := none }, { dst := some 508, op := Go.Op.nilCheck (Go.Operand.tmp 507), type := 0, pos := "interpm.go:186", after := #[{ on := 1, ground := Go.Ground.data }], guard := none }, { dst := some 509, op := Go.Op.fieldAddr 37 (Go.Operand.tmp 508) 1, type := 0, pos := "interpm.go:186", after := #[{ on := 2, ground := Go.Ground.data }], guard := none }, { dst := some 510, op := Go.Op.load 4 (Go.Operand.tmp 509), type := 4, pos := "interpm.go:186", after := #[{ on := 3, ground := Go.Ground.data }], guard := none }, { dst := some 511, op := Go.Op.move (Go.Operand.tmp 510), type := 4, pos := "interpm.go:186", after := #[{ on := 4, ground := Go.Ground.data }], guard := none }, { dst := some 512, op := Go.Op.move (Go.Operand.tmp 30), type := 4, pos := "interpm.go:186", after := #[{ on := 5, ground := Go.Ground.guard }], guard := some (5, false) }, { dst := some 513, op := Go.Op.pick (Go.Operand.tmp 511) (Go.Operand.const (Go.Value.bool true)) (Go.Operand.tmp 512), type := 4, pos := "interpm.go:186", after := #[{ on := 5, ground := Go.Ground.data }, { on := 6, ground := Go.Ground.data }], guard := none }, { dst := some 514, op := Go.Op.move (Go.Operand.tmp 513), type := 4, pos := "interpm.go:186", after := #[{ on := 7, ground := Go.Ground.data }, { on := 5, ground := Go.Ground.chain }], guard := none }, { dst := some 515, op := Go.Op.move (Go.Operand.tmp 32), type := 4, pos := "interpm.go:186", after := #[{ on := 8, ground := Go.Ground.guard }], guard := some (8, false) }, { dst := some 516, op := Go.Op.pick (Go.Operand.tmp 514) (Go.Operand.const (Go.Value.bool true)) (Go.Operand.tmp 515), type := 4, pos := "interpm.go:186", after := #[{ on := 8, ground := Go.Ground.data }, { on := 9, ground := Go.Ground.data }], guard := none }, { dst := some 517, op := Go.Op.move (Go.Operand.tmp 516), type := 4, pos := "interpm.go:186", after := #[{ on := 10, ground := Go.Ground.data }, { on := 8, ground := Go.Ground.chain }], guard := none }, { dst := some 518, op := Go.Op.move (Go.Operand.tmp 34), type := 4, pos := "interpm.go:186", after := #[{ on := 11, ground := Go.Ground.guard }], guard := some (11, false) }, { dst := some 519, op := Go.Op.pick (Go.Operand.tmp 517) (Go.Operand.const (Go.Value.bool true)) (Go.Operand.tmp 518), type := 4, pos := "interpm.go:186", after := #[{ on := 11, ground := Go.Ground.data }, { on := 12, ground := Go.Ground.data }], guard := none }, { dst := some 520, op := Go.Op.nilCheck (Go.Operand.tmp 506), type := 0, pos := "interpm.go:186", after := #[{ on := 0, ground := Go.Ground.data }, { on := 0, ground := Go.Ground.phase }, { on := 1, ground := Go.Ground.phase }, { on := 2, ground := Go.Ground.phase }, { on := 3, ground := Go.Ground.phase }, { on := 4, ground := Go.Ground.phase }, { on := 5, ground := Go.Ground.phase }, { on := 6, ground := Go.Ground.phase }, { on := 7, ground := Go.Ground.phase }, { on := 8, ground := Go.Ground.phase }, { on := 9, ground := Go.Ground.phase }, { on := 10, ground := Go.Ground.phase }, { on := 11, ground := Go.Ground.phase }, { on := 12, ground := Go.Ground.phase }, { on := 13, ground := Go.Ground.phase }], guard := none }, { dst := some 521, op := Go.Op.fieldAddr 37 (Go.Operand.tmp 520) 1, type := 0, pos := "interpm.go:186", after := #[{ on := 14, ground := Go.Ground.data }, { on := 0, ground := Go.Ground.phase }, { on := 1, ground := Go.Ground.phase }, { on := 2, ground := Go.Ground.phase }, { on := 3, ground := Go.Ground.phase }, { on := 4, ground := Go.Ground.phase }, { on := 5, ground := Go.Ground.phase }, { on := 6, ground := Go.Ground.phase }, { on := 7, ground := Go.Ground.phase }, { on := 8, ground := Go.Ground.phase }, { on := 9, ground := Go.Ground.phase }, { on := 10, ground := Go.Ground.phase }, { on := 11, ground := Go.Ground.phase }, { on := 12, ground := Go.Ground.phase }, { on := 13, ground := Go.Ground.phase }], guard := none }, { dst := none, op := Go.Op.store 4 (Go.Operand.tmp 521) (Go.Operand.tmp 519), type := 0, pos := "interpm.go:186", after := #[{ on := 15, ground := Go.Ground.data }, { on := 13, ground := Go.Ground.data }, { on := 11, ground := Go.Ground.chain }, { on := 0, ground := Go.Ground.phase }, { on := 1, ground := Go.Ground.phase }, { on := 2, ground := Go.Ground.phase }, { on := 3, ground := Go.Ground.phase }, { on := 4, ground := Go.Ground.phase }, { on := 5, ground := Go.Ground.phase }, { on := 6, ground := Go.Ground.phase }, { on := 7, ground := Go.Ground.phase }, { on := 8, ground := Go.Ground.phase }, { on := 9, ground := Go.Ground.phase }, { on := 10, ground := Go.Ground.phase }, { on := 11, ground := Go.Ground.phase }, { on := 12, ground := Go.Ground.phase }, { on := 13, ground := Go.Ground.phase }], guard := none }]
def x62T (gS : Nat) (fl b0 b1 b2 : Bool) : List (Nat × Value) := [(506, .pointer (some ⟨gS, 0, none⟩)), (507, .pointer (some ⟨gS, 0, none⟩)), (508, .pointer (some ⟨gS, 0, none⟩)), (509, .pointer (some ⟨gS, 1, none⟩)), (510, .bool fl), (511, .bool fl), (512, (if fl then undef else .bool b0)), (513, .bool (fl || b0)), (514, .bool (fl || b0)), (515, (if (fl || b0) then undef else .bool b1)), (516, .bool ((fl || b0) || b1)), (517, .bool ((fl || b0) || b1)), (518, (if ((fl || b0) || b1) then undef else .bool b2)), (519, .bool (((fl || b0) || b1) || b2)), (520, .pointer (some ⟨gS, 0, none⟩)), (521, .pointer (some ⟨gS, 1, none⟩))]
set_option maxRecDepth 4000 in
set_option maxHeartbeats 4000000 in
theorem x62_c {Q : Exit → Act → World → Prop} {a0 : Act} {w : World} (gS : Nat) (fl b0 b1 b2 : Bool) (hz0 : a0.tmps.size = 523) (h2 : a0.tmps[2]? = some (.pointer (some ⟨gS, 0, none⟩))) (h30 : a0.tmps[30]? = some (.bool b0)) (h32 : a0.tmps[32]? = some (.bool b1)) (h34 : a0.tmps[34]? = some (.bool b2)) (hc : w.cell? ⟨gS, 1, none⟩ = some (.bool fl)) (hf : w.frozen? ⟨gS, 1, none⟩ = false)
    (hend : ∀ a, a.defers = a0.defers → a.tmps.size = a0.tmps.size → (∀ t, t ∉ [506, 507, 508, 509, 510, 511, 512, 513, 514, 515, 516, 517, 518, 519, 520, 521] → a.tmps[t]? = a0.tmps[t]?) → Q .normal a (w.setCell ⟨gS, 1, none⟩ (.bool (((fl || b0) || b1) || b2)))) :
    (Code.region 62 x62 false).wp Try.prog Q a0 w := by
  refine wp_region_lin 16 (x62T gS fl b0 b1 b2) [506, 507, 508, 509, 510, 511, 512, 513, 514, 515, 516, 517, 518, 519, 520, 521] rfl rfl rfl (by decide) (by
    intro d hd
    rw [hz0]
    have : ∀ y ∈ [506, 507, 508, 509, 510, 511, 512, 513, 514, 515, 516, 517, 518, 519, 520, 521], y < 523 := by decide
    exact this _ hd) ?_ ?_
  · intro i x hT a hv ho
    match i, hT with
    | 0, hT =>
      obtain rfl := (Option.some.inj (show some (506, .pointer (some ⟨gS, 0, none⟩)) = some x from hT))
      exact wpOp_of _ rfl rfl (v_move (.tmp 2) _ rfl (veval_of ((ho 2 (by decide)).trans h2)) ⟨rfl, rfl⟩)
    | 1, hT =>
      obtain rfl := (Option.some.inj (show some (507, .pointer (some ⟨gS, 0, none⟩)) = some x from hT))
      exact wpOp_of _ rfl rfl (v_move (.tmp 2) _ rfl (veval_of ((ho 2 (by decide)).trans h2)) ⟨rfl, rfl⟩)
    | 2, hT =>
      obtain rfl := (Option.some.inj (show some (508, .pointer (some ⟨gS, 0, none⟩)) = some x from hT))
      exact wpOp_of _ rfl rfl (v_nil (.tmp 507) _ rfl (veval_of (hv 1 _ (by decide) rfl)) ⟨rfl, rfl⟩)
    | 3, hT =>
      obtain rfl := (Option.some.inj (show some (509, .pointer (some ⟨gS, 1, none⟩)) = some x from hT))
      exact wpOp_of _ rfl rfl (v_f37b (.tmp 508) _ rfl (veval_of (hv 2 _ (by decide) rfl)) ⟨rfl, rfl⟩)
    | 4, hT =>
      obtain rfl := (Option.some.inj (show some (510, .bool fl) = some x from hT))
      exact wpOp_of _ rfl rfl (v_load4 (.tmp 509) _ _ _ rfl (veval_of (hv 3 _ (by decide) rfl)) hc ⟨rfl, rfl⟩)
    | 5, hT =>
      obtain rfl := (Option.some.inj (show some (511, .bool fl) = some x from hT))
      exact wpOp_of _ rfl rfl (v_move (.tmp 510) _ rfl (veval_of (hv 4 _ (by decide) rfl)) ⟨rfl, rfl⟩)
    | 6, hT =>
      obtain rfl := (Option.some.inj (show some (512, (if fl then undef else .bool b0)) = some x from hT))
      have hg := (hv 5 _ (by decide) rfl)
      simp only at hg
      cases hb : fl
      · rw [hb] at hg
        exact wpOp_yesF _ rfl 5 _ rfl 511 rfl rfl hg (v_move (.tmp 30) _ rfl (veval_of ((ho 30 (by decide)).trans h30)) ⟨rfl, rfl⟩)
      · rw [hb] at hg
        exact wpOp_noF _ rfl 5 _ rfl 511 rfl rfl hg ⟨rfl, rfl⟩
    | 7, hT =>
      obtain rfl := (Option.some.inj (show some (513, .bool (fl || b0)) = some x from hT))
      have hg := (hv 5 _ (by decide) rfl)
      have hy := (hv 6 _ (by decide) rfl)
      simp only at hg hy
      cases hb : fl
      · rw [hb] at hg hy
        exact wpOp_of _ rfl rfl (v_pkF (.tmp 511) (.tmp 512) _ _ rfl (veval_of hg) (veval_of hy) ⟨by simp; rfl, rfl⟩)
      · rw [hb] at hg
        exact wpOp_of _ rfl rfl (v_pkT (.tmp 511) (.tmp 512) _ rfl (veval_of hg) ⟨by simp; rfl, rfl⟩)
    | 8, hT =>
      obtain rfl := (Option.some.inj (show some (514, .bool (fl || b0)) = some x from hT))
      exact wpOp_of _ rfl rfl (v_move (.tmp 513) _ rfl (veval_of (hv 7 _ (by decide) rfl)) ⟨rfl, rfl⟩)
    | 9, hT =>
      obtain rfl := (Option.some.inj (show some (515, (if (fl || b0) then undef else .bool b1)) = some x from hT))
      have hg := (hv 8 _ (by decide) rfl)
      simp only at hg
      cases hb : (fl || b0)
      · rw [hb] at hg
        exact wpOp_yesF _ rfl 8 _ rfl 514 rfl rfl hg (v_move (.tmp 32) _ rfl (veval_of ((ho 32 (by decide)).trans h32)) ⟨rfl, rfl⟩)
      · rw [hb] at hg
        exact wpOp_noF _ rfl 8 _ rfl 514 rfl rfl hg ⟨rfl, rfl⟩
    | 10, hT =>
      obtain rfl := (Option.some.inj (show some (516, .bool ((fl || b0) || b1)) = some x from hT))
      have hg := (hv 8 _ (by decide) rfl)
      have hy := (hv 9 _ (by decide) rfl)
      simp only at hg hy
      cases hb : (fl || b0)
      · rw [hb] at hg hy
        exact wpOp_of _ rfl rfl (v_pkF (.tmp 514) (.tmp 515) _ _ rfl (veval_of hg) (veval_of hy) ⟨by simp; rfl, rfl⟩)
      · rw [hb] at hg
        exact wpOp_of _ rfl rfl (v_pkT (.tmp 514) (.tmp 515) _ rfl (veval_of hg) ⟨by simp; rfl, rfl⟩)
    | 11, hT =>
      obtain rfl := (Option.some.inj (show some (517, .bool ((fl || b0) || b1)) = some x from hT))
      exact wpOp_of _ rfl rfl (v_move (.tmp 516) _ rfl (veval_of (hv 10 _ (by decide) rfl)) ⟨rfl, rfl⟩)
    | 12, hT =>
      obtain rfl := (Option.some.inj (show some (518, (if ((fl || b0) || b1) then undef else .bool b2)) = some x from hT))
      have hg := (hv 11 _ (by decide) rfl)
      simp only at hg
      cases hb : ((fl || b0) || b1)
      · rw [hb] at hg
        exact wpOp_yesF _ rfl 11 _ rfl 517 rfl rfl hg (v_move (.tmp 34) _ rfl (veval_of ((ho 34 (by decide)).trans h34)) ⟨rfl, rfl⟩)
      · rw [hb] at hg
        exact wpOp_noF _ rfl 11 _ rfl 517 rfl rfl hg ⟨rfl, rfl⟩
    | 13, hT =>
      obtain rfl := (Option.some.inj (show some (519, .bool (((fl || b0) || b1) || b2)) = some x from hT))
      have hg := (hv 11 _ (by decide) rfl)
      have hy := (hv 12 _ (by decide) rfl)
      simp only at hg hy
      cases hb : ((fl || b0) || b1)
      · rw [hb] at hg hy
        exact wpOp_of _ rfl rfl (v_pkF (.tmp 517) (.tmp 518) _ _ rfl (veval_of hg) (veval_of hy) ⟨by simp; rfl, rfl⟩)
      · rw [hb] at hg
        exact wpOp_of _ rfl rfl (v_pkT (.tmp 517) (.tmp 518) _ rfl (veval_of hg) ⟨by simp; rfl, rfl⟩)
    | 14, hT =>
      obtain rfl := (Option.some.inj (show some (520, .pointer (some ⟨gS, 0, none⟩)) = some x from hT))
      exact wpOp_of _ rfl rfl (v_nil (.tmp 506) _ rfl (veval_of (hv 0 _ (by decide) rfl)) ⟨rfl, rfl⟩)
    | 15, hT =>
      obtain rfl := (Option.some.inj (show some (521, .pointer (some ⟨gS, 1, none⟩)) = some x from hT))
      exact wpOp_of _ rfl rfl (v_f37b (.tmp 520) _ rfl (veval_of (hv 14 _ (by decide) rfl)) ⟨rfl, rfl⟩)
    | i + 16, hT => simp [x62T] at hT
  · intro a hd hs hv ho
    have k1 := hv _ (List.mem_of_getElem? (show (x62T gS fl b0 b1 b2)[15]? = some _ from rfl))
    have k2 := hv _ (List.mem_of_getElem? (show (x62T gS fl b0 b1 b2)[13]? = some _ from rfl))
    exact wpOp_of _ rfl rfl (v_store4 (.tmp 521) (.tmp 519) _ _ _ _ rfl rfl (veval_of k1) (veval_of k2) hc hf (hend a hd hs ho))
def x48 : Array Oper := #[{ dst := some 382, op := Go.Op.move (Go.Operand.tmp 2), type := 59, pos := "interpm.go:171", after := #[], guard := none }, { dst := some 383, op := Go.Op.move (Go.Operand.tmp 2), type := 59, pos := "interpm.go:171", after := #[], guard := none }, { dst := some 384, op := Go.Op.nilCheck (Go.Operand.tmp 383), type := 0, pos := "interpm.go:171", after := #[{ on := 1, ground := Go.Ground.data }], guard := none }, { dst := some 385, op := Go.Op.fieldAddr 37 (Go.Operand.tmp 384) 1, type := 0, pos := "interpm.go:171", after := #[{ on := 2, ground := Go.Ground.data }], guard := none }, { dst := some 386, op := Go.Op.load 4 (Go.Operand.tmp 385), type := 4, pos := "interpm.go:171", after := #[{ on := 3, ground := Go.Ground.data }], guard := none }, { dst := some 387, op := Go.Op.move (Go.Operand.tmp 386), type := 4, pos := "interpm.go:171", after := #[{ on := 4, ground := Go.Ground.data }], guard := none }, { dst := some 388, op := Go.Op.move (Go.Operand.tmp 21), type := 4, pos := "interpm.go:171", after := #[{ on := 5, ground := Go.Ground.guard }], guard := some (5, false) }, { dst := some 389, op := Go.Op.pick (Go.Operand.tmp 387) (Go.Operand.const (Go.Value.bool true)) (Go.Operand.tmp 388), type := 4, pos := "interpm.go:171", after := #[{ on := 5, ground := Go.Ground.data }, { on := 6, ground := Go.Ground.data }], guard := none }, { dst := some 390, op := Go.Op.move (Go.Operand.tmp 389), type := 4, pos := "interpm.go:171", after := #[{ on := 7, ground := Go.Ground.data }, { on := 5, ground := Go.Ground.chain }], guard := none }, { dst := some 391, op := Go.Op.move (Go.Operand.tmp 23), type := 4, pos := "interpm.go:171", after := #[{ on := 8, ground := Go.Ground.guard }], guard := some (8, false) }, { dst := some 392, op := Go.Op.pick (Go.Operand.tmp 390) (Go.Operand.const (Go.Value.bool true)) (Go.Operand.tmp 391), type := 4, pos := "interpm.go:171", after := #[{ on := 8, ground := Go.Ground.data }, { on := 9, ground := Go.Ground.data }], guard := none }, { dst := some 393, op := Go.Op.move (Go.Operand.tmp 392), type := 4, pos := "interpm.go:171", after := #[{ on := 10, ground := Go.Ground.data }, { on := 8, ground := Go.Ground.chain }], guard := none }, { dst := some 394, op := Go.Op.move (Go.Operand.tmp 25), type := 4, pos := "interpm.go:171", after := #[{ on := 11, ground := Go.Ground.guard }], guard := some (11, false) }, { dst := some 395, op := Go.Op.pick (Go.Operand.tmp 393) (Go.Operand.const (Go.Value.bool true)) (Go.Operand.tmp 394), type := 4, pos := "interpm.go:171", after := #[{ on := 11, ground := Go.Ground.data }, { on := 12, ground := Go.Ground.data }], guard := none }, { dst := some 396, op := Go.Op.nilCheck (Go.Operand.tmp 382), type := 0, pos := "interpm.go:171", after := #[{ on := 0, ground := Go.Ground.data }, { on := 0, ground := Go.Ground.phase }, { on := 1, ground := Go.Ground.phase }, { on := 2, ground := Go.Ground.phase }, { on := 3, ground := Go.Ground.phase }, { on := 4, ground := Go.Ground.phase }, { on := 5, ground := Go.Ground.phase }, { on := 6, ground := Go.Ground.phase }, { on := 7, ground := Go.Ground.phase }, { on := 8, ground := Go.Ground.phase }, { on := 9, ground := Go.Ground.phase }, { on := 10, ground := Go.Ground.phase }, { on := 11, ground := Go.Ground.phase }, { on := 12, ground := Go.Ground.phase }, { on := 13, ground := Go.Ground.phase }], guard := none }, { dst := some 397, op := Go.Op.fieldAddr 37 (Go.Operand.tmp 396) 1, type := 0, pos := "interpm.go:171", after := #[{ on := 14, ground := Go.Ground.data }, { on := 0, ground := Go.Ground.phase }, { on := 1, ground := Go.Ground.phase }, { on := 2, ground := Go.Ground.phase }, { on := 3, ground := Go.Ground.phase }, { on := 4, ground := Go.Ground.phase }, { on := 5, ground := Go.Ground.phase }, { on := 6, ground := Go.Ground.phase }, { on := 7, ground := Go.Ground.phase }, { on := 8, ground := Go.Ground.phase }, { on := 9, ground := Go.Ground.phase }, { on := 10, ground := Go.Ground.phase }, { on := 11, ground := Go.Ground.phase }, { on := 12, ground := Go.Ground.phase }, { on := 13, ground := Go.Ground.phase }], guard := none }, { dst := none, op := Go.Op.store 4 (Go.Operand.tmp 397) (Go.Operand.tmp 395), type := 0, pos := "interpm.go:171", after := #[{ on := 15, ground := Go.Ground.data }, { on := 13, ground := Go.Ground.data }, { on := 11, ground := Go.Ground.chain }, { on := 0, ground := Go.Ground.phase }, { on := 1, ground := Go.Ground.phase }, { on := 2, ground := Go.Ground.phase }, { on := 3, ground := Go.Ground.phase }, { on := 4, ground := Go.Ground.phase }, { on := 5, ground := Go.Ground.phase }, { on := 6, ground := Go.Ground.phase }, { on := 7, ground := Go.Ground.phase }, { on := 8, ground := Go.Ground.phase }, { on := 9, ground := Go.Ground.phase }, { on := 10, ground := Go.Ground.phase }, { on := 11, ground := Go.Ground.phase }, { on := 12, ground := Go.Ground.phase }, { on := 13, ground := Go.Ground.phase }], guard := none }]
def x48T (gS : Nat) (fl b0 b1 b2 : Bool) : List (Nat × Value) := [(382, .pointer (some ⟨gS, 0, none⟩)), (383, .pointer (some ⟨gS, 0, none⟩)), (384, .pointer (some ⟨gS, 0, none⟩)), (385, .pointer (some ⟨gS, 1, none⟩)), (386, .bool fl), (387, .bool fl), (388, (if fl then undef else .bool b0)), (389, .bool (fl || b0)), (390, .bool (fl || b0)), (391, (if (fl || b0) then undef else .bool b1)), (392, .bool ((fl || b0) || b1)), (393, .bool ((fl || b0) || b1)), (394, (if ((fl || b0) || b1) then undef else .bool b2)), (395, .bool (((fl || b0) || b1) || b2)), (396, .pointer (some ⟨gS, 0, none⟩)), (397, .pointer (some ⟨gS, 1, none⟩))]
set_option maxRecDepth 4000 in
set_option maxHeartbeats 4000000 in
theorem x48_c {Q : Exit → Act → World → Prop} {a0 : Act} {w : World} (gS : Nat) (fl b0 b1 b2 : Bool) (hz0 : a0.tmps.size = 523) (h2 : a0.tmps[2]? = some (.pointer (some ⟨gS, 0, none⟩))) (h21 : a0.tmps[21]? = some (.bool b0)) (h23 : a0.tmps[23]? = some (.bool b1)) (h25 : a0.tmps[25]? = some (.bool b2)) (hc : w.cell? ⟨gS, 1, none⟩ = some (.bool fl)) (hf : w.frozen? ⟨gS, 1, none⟩ = false)
    (hend : ∀ a, a.defers = a0.defers → a.tmps.size = a0.tmps.size → (∀ t, t ∉ [382, 383, 384, 385, 386, 387, 388, 389, 390, 391, 392, 393, 394, 395, 396, 397] → a.tmps[t]? = a0.tmps[t]?) → Q .normal a (w.setCell ⟨gS, 1, none⟩ (.bool (((fl || b0) || b1) || b2)))) :
    (Code.region 48 x48 false).wp Try.prog Q a0 w := by
  refine wp_region_lin 16 (x48T gS fl b0 b1 b2) [382, 383, 384, 385, 386, 387, 388, 389, 390, 391, 392, 393, 394, 395, 396, 397] rfl rfl rfl (by decide) (by
    intro d hd
    rw [hz0]
    have : ∀ y ∈ [382, 383, 384, 385, 386, 387, 388, 389, 390, 391, 392, 393, 394, 395, 396, 397], y < 523 := by decide
    exact this _ hd) ?_ ?_
  · intro i x hT a hv ho
    match i, hT with
    | 0, hT =>
      obtain rfl := (Option.some.inj (show some (382, .pointer (some ⟨gS, 0, none⟩)) = some x from hT))
      exact wpOp_of _ rfl rfl (v_move (.tmp 2) _ rfl (veval_of ((ho 2 (by decide)).trans h2)) ⟨rfl, rfl⟩)
    | 1, hT =>
      obtain rfl := (Option.some.inj (show some (383, .pointer (some ⟨gS, 0, none⟩)) = some x from hT))
      exact wpOp_of _ rfl rfl (v_move (.tmp 2) _ rfl (veval_of ((ho 2 (by decide)).trans h2)) ⟨rfl, rfl⟩)
    | 2, hT =>
      obtain rfl := (Option.some.inj (show some (384, .pointer (some ⟨gS, 0, none⟩)) = some x from hT))
      exact wpOp_of _ rfl rfl (v_nil (.tmp 383) _ rfl (veval_of (hv 1 _ (by decide) rfl)) ⟨rfl, rfl⟩)
    | 3, hT =>
      obtain rfl := (Option.some.inj (show some (385, .pointer (some ⟨gS, 1, none⟩)) = some x from hT))
      exact wpOp_of _ rfl rfl (v_f37b (.tmp 384) _ rfl (veval_of (hv 2 _ (by decide) rfl)) ⟨rfl, rfl⟩)
    | 4, hT =>
      obtain rfl := (Option.some.inj (show some (386, .bool fl) = some x from hT))
      exact wpOp_of _ rfl rfl (v_load4 (.tmp 385) _ _ _ rfl (veval_of (hv 3 _ (by decide) rfl)) hc ⟨rfl, rfl⟩)
    | 5, hT =>
      obtain rfl := (Option.some.inj (show some (387, .bool fl) = some x from hT))
      exact wpOp_of _ rfl rfl (v_move (.tmp 386) _ rfl (veval_of (hv 4 _ (by decide) rfl)) ⟨rfl, rfl⟩)
    | 6, hT =>
      obtain rfl := (Option.some.inj (show some (388, (if fl then undef else .bool b0)) = some x from hT))
      have hg := (hv 5 _ (by decide) rfl)
      simp only at hg
      cases hb : fl
      · rw [hb] at hg
        exact wpOp_yesF _ rfl 5 _ rfl 387 rfl rfl hg (v_move (.tmp 21) _ rfl (veval_of ((ho 21 (by decide)).trans h21)) ⟨rfl, rfl⟩)
      · rw [hb] at hg
        exact wpOp_noF _ rfl 5 _ rfl 387 rfl rfl hg ⟨rfl, rfl⟩
    | 7, hT =>
      obtain rfl := (Option.some.inj (show some (389, .bool (fl || b0)) = some x from hT))
      have hg := (hv 5 _ (by decide) rfl)
      have hy := (hv 6 _ (by decide) rfl)
      simp only at hg hy
      cases hb : fl
      · rw [hb] at hg hy
        exact wpOp_of _ rfl rfl (v_pkF (.tmp 387) (.tmp 388) _ _ rfl (veval_of hg) (veval_of hy) ⟨by simp; rfl, rfl⟩)
      · rw [hb] at hg
        exact wpOp_of _ rfl rfl (v_pkT (.tmp 387) (.tmp 388) _ rfl (veval_of hg) ⟨by simp; rfl, rfl⟩)
    | 8, hT =>
      obtain rfl := (Option.some.inj (show some (390, .bool (fl || b0)) = some x from hT))
      exact wpOp_of _ rfl rfl (v_move (.tmp 389) _ rfl (veval_of (hv 7 _ (by decide) rfl)) ⟨rfl, rfl⟩)
    | 9, hT =>
      obtain rfl := (Option.some.inj (show some (391, (if (fl || b0) then undef else .bool b1)) = some x from hT))
      have hg := (hv 8 _ (by decide) rfl)
      simp only at hg
      cases hb : (fl || b0)
      · rw [hb] at hg
        exact wpOp_yesF _ rfl 8 _ rfl 390 rfl rfl hg (v_move (.tmp 23) _ rfl (veval_of ((ho 23 (by decide)).trans h23)) ⟨rfl, rfl⟩)
      · rw [hb] at hg
        exact wpOp_noF _ rfl 8 _ rfl 390 rfl rfl hg ⟨rfl, rfl⟩
    | 10, hT =>
      obtain rfl := (Option.some.inj (show some (392, .bool ((fl || b0) || b1)) = some x from hT))
      have hg := (hv 8 _ (by decide) rfl)
      have hy := (hv 9 _ (by decide) rfl)
      simp only at hg hy
      cases hb : (fl || b0)
      · rw [hb] at hg hy
        exact wpOp_of _ rfl rfl (v_pkF (.tmp 390) (.tmp 391) _ _ rfl (veval_of hg) (veval_of hy) ⟨by simp; rfl, rfl⟩)
      · rw [hb] at hg
        exact wpOp_of _ rfl rfl (v_pkT (.tmp 390) (.tmp 391) _ rfl (veval_of hg) ⟨by simp; rfl, rfl⟩)
    | 11, hT =>
      obtain rfl := (Option.some.inj (show some (393, .bool ((fl || b0) || b1)) = some x from hT))
      exact wpOp_of _ rfl rfl (v_move (.tmp 392) _ rfl (veval_of (hv 10 _ (by decide) rfl)) ⟨rfl, rfl⟩)
    | 12, hT =>
      obtain rfl := (Option.some.inj (show some (394, (if ((fl || b0) || b1) then undef else .bool b2)) = some x from hT))
      have hg := (hv 11 _ (by decide) rfl)
      simp only at hg
      cases hb : ((fl || b0) || b1)
      · rw [hb] at hg
        exact wpOp_yesF _ rfl 11 _ rfl 393 rfl rfl hg (v_move (.tmp 25) _ rfl (veval_of ((ho 25 (by decide)).trans h25)) ⟨rfl, rfl⟩)
      · rw [hb] at hg
        exact wpOp_noF _ rfl 11 _ rfl 393 rfl rfl hg ⟨rfl, rfl⟩
    | 13, hT =>
      obtain rfl := (Option.some.inj (show some (395, .bool (((fl || b0) || b1) || b2)) = some x from hT))
      have hg := (hv 11 _ (by decide) rfl)
      have hy := (hv 12 _ (by decide) rfl)
      simp only at hg hy
      cases hb : ((fl || b0) || b1)
      · rw [hb] at hg hy
        exact wpOp_of _ rfl rfl (v_pkF (.tmp 393) (.tmp 394) _ _ rfl (veval_of hg) (veval_of hy) ⟨by simp; rfl, rfl⟩)
      · rw [hb] at hg
        exact wpOp_of _ rfl rfl (v_pkT (.tmp 393) (.tmp 394) _ rfl (veval_of hg) ⟨by simp; rfl, rfl⟩)
    | 14, hT =>
      obtain rfl := (Option.some.inj (show some (396, .pointer (some ⟨gS, 0, none⟩)) = some x from hT))
      exact wpOp_of _ rfl rfl (v_nil (.tmp 382) _ rfl (veval_of (hv 0 _ (by decide) rfl)) ⟨rfl, rfl⟩)
    | 15, hT =>
      obtain rfl := (Option.some.inj (show some (397, .pointer (some ⟨gS, 1, none⟩)) = some x from hT))
      exact wpOp_of _ rfl rfl (v_f37b (.tmp 396) _ rfl (veval_of (hv 14 _ (by decide) rfl)) ⟨rfl, rfl⟩)
    | i + 16, hT => simp [x48T] at hT
  · intro a hd hs hv ho
    have k1 := hv _ (List.mem_of_getElem? (show (x48T gS fl b0 b1 b2)[15]? = some _ from rfl))
    have k2 := hv _ (List.mem_of_getElem? (show (x48T gS fl b0 b1 b2)[13]? = some _ from rfl))
    exact wpOp_of _ rfl rfl (v_store4 (.tmp 397) (.tmp 395) _ _ _ _ rfl rfl (veval_of k1) (veval_of k2) hc hf (hend a hd hs ho))
def x63 : Array Oper := #[{ dst := some 522, op := Go.Op.binOp Go.BinOp.add 3 (Go.Operand.tmp 39) (Go.Operand.const (Go.Value.int Go.IntKind.i64 1)) 3, type := 3, pos := "interpm.go:120", after := #[], guard := none }, { dst := some 39, op := Go.Op.move (Go.Operand.tmp 522), type := 3, pos := "interpm.go:120", after := #[{ on := 0, ground := Go.Ground.data }], guard := none }]
theorem x63_c {Q : Exit → Act → World → Prop} {a0 : Act} {w : World} (k : Nat) (hz0 : a0.tmps.size = 523) (h39 : a0.tmps[39]? = some (.int .i64 ((k : Nat) : Int))) (hk : (k : Int) < 9223372036854775807)
    (hend : ∀ a, a.defers = a0.defers → a.tmps.size = a0.tmps.size → (∀ t, t ∉ [522, 39] → a.tmps[t]? = a0.tmps[t]?) → a.tmps[39]? = some (.int .i64 (((k + 1 : Nat)) : Int)) → Q .normal a w) :
    (Code.region 63 x63 false).wp Try.prog Q a0 w := by
  refine wp_region ?_
  rw [show List.range x63.size = [0, 1] from rfl, wpOps_cons]
  refine wpOp_of _ rfl rfl (v_addi (.tmp 39) _ _ _ (((k + 1 : Nat)) : Int) rfl (veval_of h39) rfl (by rw [IntKind.wrap_i64]; omega) ?_)
  rw [wpOps_cons]
  refine wpOp_of _ rfl rfl (v_move (.tmp 522) (.int .i64 (((k + 1 : Nat)) : Int)) rfl (veval_of ?_) ?_)
  · show (a0.put (some 522) _).tmps[522]? = _
    rw [vget_put, if_pos rfl, if_pos (by rw [hz0]; decide)]
  · show Q .normal ((a0.put (some 522) _).put (some 39) _) w
    refine hend _ (by rw [vdefers_put, vdefers_put]) (by rw [vsize_put, vsize_put]) (fun t ht => ?_) ?_
    · simp only [List.mem_cons, List.not_mem_nil, or_false, not_or] at ht
      rw [vget_put, if_neg (fun e => ht.2 e.symm), vget_put, if_neg (fun e => ht.1 e.symm)]
    · rw [vget_put, if_pos rfl, vsize_put, if_pos (by rw [hz0]; decide)]
theorem getD_of {a : Act} {i : Nat} {v : Value} (h : a.tmps[i]? = some v) : a.tmps.getD i undef = v := by simp [Array.getD_eq_getD_getElem?, h]
end Go.Proofs.Qxb6500772a
