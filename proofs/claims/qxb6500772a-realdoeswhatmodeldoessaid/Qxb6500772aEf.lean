/- equal's first region: it compares the fault flags. -/
import Derived.Test.Qxb6500772aEb
namespace Go.Proofs.Qxb6500772a
open Go Go.RowKit Go.Qm
set_option linter.unusedVariables false
set_option linter.unusedSimpArgs false
section
variable {o : Oper} {a : Act} {w : World} {K : Act → World → Prop} {Q : Exit → Act → World → Prop}
theorem v_f87 (x : Operand) (g : Nat) (ho : o.op = .fieldAddr 87 x 0) (hx : a.eval x = .pointer (some ⟨g, 0, none⟩)) (h : K (a.put o.dst (.pointer (some ⟨g, 0, none⟩))) w) : o.wp Try.prog a w K Q := by
  unfold Oper.wp execOp
  simp only [ho, hx]
  simp [go_sem]
  exact h
theorem v_load44 (x : Operand) (g k : Nat) (v : Value) (ho : o.op = .load 44 x) (hx : a.eval x = .pointer (some ⟨g, k, none⟩)) (hc : w.cell? ⟨g, k, none⟩ = some v) (h : K (a.put o.dst v) w) : o.wp Try.prog a w K Q := by
  unfold Oper.wp execOp
  simp only [ho, hx]
  simp [go_sem, hc]
  exact h
theorem v_assign (x : Operand) (v : Value) (ho : o.op = .assign x) (hx : a.eval x = v) (h : K (a.put o.dst v) w) : o.wp Try.prog a w K Q := by
  unfold Oper.wp execOp
  simp only [ho, hx]
  exact h
end
structure Gq where
  ga : Nat
  gb : Nat
  bit : Nat
def q1 : Array Oper := #[{ dst := some 10, op := Go.Op.move (Go.Operand.tmp 0), type := 85, pos := "exec.go:79", after := #[], guard := none }, { dst := some 11, op := Go.Op.nilCheck (Go.Operand.tmp 10), type := 0, pos := "exec.go:79", after := #[{ on := 0, ground := Go.Ground.data }], guard := none }, { dst := some 12, op := Go.Op.fieldAddr 87 (Go.Operand.tmp 11) 0, type := 0, pos := "exec.go:79", after := #[{ on := 1, ground := Go.Ground.data }], guard := none }, { dst := some 13, op := Go.Op.load 44 (Go.Operand.tmp 12), type := 44, pos := "exec.go:79", after := #[{ on := 2, ground := Go.Ground.data }], guard := none }, { dst := some 14, op := Go.Op.move (Go.Operand.tmp 1), type := 91, pos := "exec.go:79", after := #[], guard := none }, { dst := some 15, op := Go.Op.nilCheck (Go.Operand.tmp 14), type := 0, pos := "exec.go:79", after := #[{ on := 4, ground := Go.Ground.data }], guard := none }, { dst := some 16, op := Go.Op.fieldAddr 48 (Go.Operand.tmp 15) 1, type := 0, pos := "exec.go:79", after := #[{ on := 5, ground := Go.Ground.data }], guard := none }, { dst := some 17, op := Go.Op.load 46 (Go.Operand.tmp 16), type := 46, pos := "exec.go:79", after := #[{ on := 6, ground := Go.Ground.data }], guard := none }, { dst := some 18, op := Go.Op.buildSlice 96 1 #[(0, Go.Operand.tmp 17)], type := 96, pos := "exec.go:79", after := #[{ on := 7, ground := Go.Ground.data }], guard := none }, { dst := some 19, op := Go.Op.move (Go.Operand.tmp 2), type := 91, pos := "exec.go:79", after := #[], guard := none }, { dst := some 20, op := Go.Op.nilCheck (Go.Operand.tmp 19), type := 0, pos := "exec.go:79", after := #[{ on := 9, ground := Go.Ground.data }], guard := none }, { dst := some 21, op := Go.Op.fieldAddr 48 (Go.Operand.tmp 20) 1, type := 0, pos := "exec.go:79", after := #[{ on := 10, ground := Go.Ground.data }], guard := none }, { dst := some 22, op := Go.Op.load 46 (Go.Operand.tmp 21), type := 46, pos := "exec.go:79", after := #[{ on := 11, ground := Go.Ground.data }], guard := none }, { dst := some 23, op := Go.Op.buildSlice 96 1 #[(0, Go.Operand.tmp 22)], type := 96, pos := "exec.go:79", after := #[{ on := 12, ground := Go.Ground.data }], guard := none }, { dst := some 24, op := Go.Op.call { callee := Go.Callee.value (Go.Operand.func 71), args := #[Go.Operand.tmp 13, Go.Operand.tmp 18, Go.Operand.tmp 23], argTypes := #[44, 95, 95] }, type := 46, pos := "exec.go:79", after := #[{ on := 3, ground := Go.Ground.data }, { on := 8, ground := Go.Ground.data }, { on := 13, ground := Go.Ground.data }], guard := none }, { dst := some 7, op := Go.Op.assign (Go.Operand.tmp 24), type := 46, pos := "exec.go:79", after := #[{ on := 14, ground := Go.Ground.data }, { on := 14, ground := Go.Ground.chain }, { on := 0, ground := Go.Ground.phase }, { on := 1, ground := Go.Ground.phase }, { on := 2, ground := Go.Ground.phase }, { on := 3, ground := Go.Ground.phase }, { on := 4, ground := Go.Ground.phase }, { on := 5, ground := Go.Ground.phase }, { on := 6, ground := Go.Ground.phase }, { on := 7, ground := Go.Ground.phase }, { on := 8, ground := Go.Ground.phase }, { on := 9, ground := Go.Ground.phase }, { on := 10, ground := Go.Ground.phase }, { on := 11, ground := Go.Ground.phase }, { on := 12, ground := Go.Ground.phase }, { on := 13, ground := Go.Ground.phase }, { on := 14, ground := Go.Ground.phase }], guard := none }]
def q1L (gB gc gF oF gO oG fT fE : Nat) (p : Gq) : List (Nat × Value) := [(10, .pointer (some ⟨gB, 0, none⟩)), (11, .pointer (some ⟨gB, 0, none⟩)), (12, .pointer (some ⟨gB, 0, none⟩)), (13, .pointer (some ⟨gc, 0, none⟩)), (14, .pointer (some ⟨gF, oF, none⟩)), (15, .pointer (some ⟨gF, oF, none⟩)), (16, .pointer (some ⟨gF, oF + 1, none⟩)), (17, .int .i64 ((fT : Nat) : Int)), (18, .slice (some ⟨p.ga, 0, none⟩) 1 1), (19, .pointer (some ⟨gO, oG, none⟩)), (20, .pointer (some ⟨gO, oG, none⟩)), (21, .pointer (some ⟨gO, oG + 1, none⟩)), (22, .int .i64 ((fE : Nat) : Int)), (23, .slice (some ⟨p.gb, 0, none⟩) 1 1), (24, .int .i64 ((p.bit : Nat) : Int)), (7, .int .i64 ((p.bit : Nat) : Int))]
theorem q1_chk : chk q1 16 = true := by kernel_rfl
/-- What has come up, and what is known of the world. -/
def q1C (w0 : World) (fT fE : Nat) (R : Nat → World → Prop) (listed : Array Bool) (p : Gq) (w : World) : Prop :=
  (listed.getD 14 false = false → Keep w0.drew w ∧ (listed.getD 8 false = true → Arr w p.ga 46 [.int .i64 ((fT : Nat) : Int)] ∧ w0.heap.size ≤ p.ga) ∧ (listed.getD 13 false = true → Arr w p.gb 46 [.int .i64 ((fE : Nat) : Int)] ∧ w0.heap.size ≤ p.gb)) ∧ (listed.getD 14 false = true → R p.bit w)
theorem q1C_set {w0 : World} {fT fE : Nat} {R : Nat → World → Prop} {listed : Array Bool} {p : Gq} {w : World} {i : Nat} (hi : i < listed.size) (h9 : i ≠ 8) (h12 : i ≠ 13) (h13 : i ≠ 14) (h : q1C w0 fT fE R listed p w) : q1C w0 fT fE R (listed.setIfInBounds i true) p w := by
  unfold q1C at *
  rw [got_set hi, got_set hi, got_set hi, if_neg h9, if_neg h12, if_neg h13]
  exact h
set_option maxRecDepth 4000 in
set_option maxHeartbeats 4000000 in
theorem q1_c {Q : Exit → Act → World → Prop} {a0 : Act} {w : World} (gB gc gF oF gO oG fT fE : Nat) (hz0 : a0.tmps.size = 65)
    (h0 : a0.tmps[0]? = some (.pointer (some ⟨gB, 0, none⟩))) (h1 : a0.tmps[1]? = some (.pointer (some ⟨gF, oF, none⟩))) (h2 : a0.tmps[2]? = some (.pointer (some ⟨gO, oG, none⟩)))
    (R : Nat → World → Prop) (hF : ∀ W, Keep w.drew W → W.cell? ⟨gB, 0, none⟩ = some (.pointer (some ⟨gc, 0, none⟩)) ∧ W.cell? ⟨gF, oF + 1, none⟩ = some (.int .i64 ((fT : Nat) : Int)) ∧ W.cell? ⟨gO, oG + 1, none⟩ = some (.int .i64 ((fE : Nat) : Int))) (hG : ∀ d W, R d W → W.cell? ⟨gB, 0, none⟩ = some (.pointer (some ⟨gc, 0, none⟩)) ∧ W.cell? ⟨gF, oF + 1, none⟩ = some (.int .i64 ((fT : Nat) : Int)) ∧ W.cell? ⟨gO, oG + 1, none⟩ = some (.int .i64 ((fE : Nat) : Int)))
    (hC : ∀ W ga gb, Keep w.drew W → Arr W ga 46 [.int .i64 ((fT : Nat) : Int)] → Arr W gb 46 [.int .i64 ((fE : Nat) : Int)] → w.heap.size ≤ ga → w.heap.size ≤ gb → Calls Try.prog 71 #[.pointer (some ⟨gc, 0, none⟩), .slice (some ⟨ga, 0, none⟩) 1 1, .slice (some ⟨gb, 0, none⟩) 1 1] W fun e w' => ∃ bit : Nat, e = .returned (.int .i64 (bit : Int)) ∧ R bit w')
    (hend : ∀ p W, R p.bit W → Q .normal (lay a0 (q1L gB gc gF oF gO oG fT fE p)) W) :
    (Code.region 1 q1 true).wp Try.prog Q a0 w := by
  have o0 : ∀ a : Act, (∀ t, t ∉ [10, 11, 12, 13, 14, 15, 16, 17, 18, 19, 20, 21, 22, 23, 24, 7] → a.tmps[t]? = a0.tmps[t]?) → a.eval (.tmp 0) = .pointer (some ⟨gB, 0, none⟩) := fun a hot => veval_of ((hot 0 (by decide)).trans h0)
  have o1 : ∀ a : Act, (∀ t, t ∉ [10, 11, 12, 13, 14, 15, 16, 17, 18, 19, 20, 21, 22, 23, 24, 7] → a.tmps[t]? = a0.tmps[t]?) → a.eval (.tmp 1) = .pointer (some ⟨gF, oF, none⟩) := fun a hot => veval_of ((hot 1 (by decide)).trans h1)
  have o2 : ∀ a : Act, (∀ t, t ∉ [10, 11, 12, 13, 14, 15, 16, 17, 18, 19, 20, 21, 22, 23, 24, 7] → a.tmps[t]? = a0.tmps[t]?) → a.eval (.tmp 2) = .pointer (some ⟨gO, oG, none⟩) := fun a hot => veval_of ((hot 2 (by decide)).trans h2)
  have hFC : ∀ listed p W, q1C w fT fE R listed p W → W.cell? ⟨gB, 0, none⟩ = some (.pointer (some ⟨gc, 0, none⟩)) ∧ W.cell? ⟨gF, oF + 1, none⟩ = some (.int .i64 ((fT : Nat) : Int)) ∧ W.cell? ⟨gO, oG + 1, none⟩ = some (.int .i64 ((fE : Nat) : Int)) := fun listed p W h => by
    cases e : listed.getD 14 false with
    | false => exact hF W (h.1 e).1
    | true => exact hG _ W (h.2 e)
  have hlt : ∀ {i : Nat} {l : Array Bool}, l.size = q1.size → i < 16 → i < l.size := fun h h' => by
    rw [h]; exact Nat.lt_of_lt_of_le h' (by decide)
  refine wp_region_gh (by rfl) 16 [10, 11, 12, 13, 14, 15, 16, 17, 18, 19, 20, 21, 22, 23, 24, 7] (q1L gB gc gF oF gO oG fT fE) (fun _ => rfl) rfl (by decide) q1_chk (by decide) (by
    intro d hd
    rw [hz0]
    have : ∀ y ∈ [10, 11, 12, 13, 14, 15, 16, 17, 18, 19, 20, 21, 22, 23, 24, 7], y < 65 := by decide
    exact this _ hd) (q1C w fT fE R) ⟨⟨0, 0, 0⟩, ?_⟩ ?_ ?_
  · refine ⟨fun _ => ⟨Keep.refl _, fun h => ?_, fun h => ?_⟩, fun h => ?_⟩
    · exact absurd h (by decide)
    · exact absurd h (by decide)
    · exact absurd h (by decide)
  · intro i d hd listed p a w' hs hdn hno hdp hc hot hvl
    match i, hd with
    | 0, hd =>
      have e1 := o0 a hot
      exact wpOp_of _ rfl rfl (v_move (.tmp 0) _ rfl e1 ⟨p, _, rfl, rfl, q1C_set (hlt hs (by decide)) (by decide) (by decide) (by decide) hc, fun j _ => rfl⟩)
    | 1, hd =>
      have e1 := veval_of (hvl 0 _ rfl (hdp 0 (by decide)))
      exact wpOp_of _ rfl rfl (v_nil (.tmp 10) _ rfl e1 ⟨p, _, rfl, rfl, q1C_set (hlt hs (by decide)) (by decide) (by decide) (by decide) hc, fun j _ => rfl⟩)
    | 2, hd =>
      have e1 := veval_of (hvl 1 _ rfl (hdp 1 (by decide)))
      exact wpOp_of _ rfl rfl (v_f87 (.tmp 11) _ rfl e1 ⟨p, _, rfl, rfl, q1C_set (hlt hs (by decide)) (by decide) (by decide) (by decide) hc, fun j _ => rfl⟩)
    | 3, hd =>
      have e1 := veval_of (hvl 2 _ rfl (hdp 2 (by decide)))
      exact wpOp_of _ rfl rfl (v_load44 (.tmp 12) _ _ _ rfl e1 (hFC _ _ _ hc).1 ⟨p, _, rfl, rfl, q1C_set (hlt hs (by decide)) (by decide) (by decide) (by decide) hc, fun j _ => rfl⟩)
    | 4, hd =>
      have e1 := o1 a hot
      exact wpOp_of _ rfl rfl (v_move (.tmp 1) _ rfl e1 ⟨p, _, rfl, rfl, q1C_set (hlt hs (by decide)) (by decide) (by decide) (by decide) hc, fun j _ => rfl⟩)
    | 5, hd =>
      have e1 := veval_of (hvl 4 _ rfl (hdp 4 (by decide)))
      exact wpOp_of _ rfl rfl (v_nil (.tmp 14) _ rfl e1 ⟨p, _, rfl, rfl, q1C_set (hlt hs (by decide)) (by decide) (by decide) (by decide) hc, fun j _ => rfl⟩)
    | 6, hd =>
      have e1 := veval_of (hvl 5 _ rfl (hdp 5 (by decide)))
      exact wpOp_of _ rfl rfl (v_f48b (.tmp 15) _ _ rfl e1 ⟨p, _, rfl, rfl, q1C_set (hlt hs (by decide)) (by decide) (by decide) (by decide) hc, fun j _ => rfl⟩)
    | 7, hd =>
      have e1 := veval_of (hvl 6 _ rfl (hdp 6 (by decide)))
      exact wpOp_of _ rfl rfl (v_load46 (.tmp 16) _ _ _ rfl e1 (hFC _ _ _ hc).2.1 ⟨p, _, rfl, rfl, q1C_set (hlt hs (by decide)) (by decide) (by decide) (by decide) hc, fun j _ => rfl⟩)
    | 8, hd =>
      have e1 := hvl 7 _ rfl (hdp 7 (by decide))
      have n13 : listed.getD 14 false = false := by
        cases e : listed.getD 14 false with
        | false => rfl
        | true => rw [hdn 14 e 8 (by decide)] at hno; cases hno
      obtain ⟨c1, c2, c3⟩ := hc.1 n13
      refine wpOp_of _ rfl rfl (v_build96 17 _ rfl e1 ⟨{ p with ga := w'.heap.size }, _, rfl, rfl, ?_, fun j hj => ?_⟩)
      · have hsz := hlt (i := 8) hs (by decide)
        have hks : w.heap.size ≤ w'.heap.size := c1.size
        unfold q1C
        rw [got_set hsz, got_set hsz, got_set hsz, if_neg (by decide), if_pos rfl, if_neg (by decide)]
        refine ⟨fun _ => ⟨c1.alloc _, fun _ => ⟨Arr.new w' 46 _, hks⟩, fun h => ⟨(c3 h).1.keep ((Keep.refl _).alloc _), (c3 h).2⟩⟩, fun h => ?_⟩
        rw [n13] at h; cases h
      · have hne : j ≠ 8 := fun e => by rw [e, hno] at hj; cases hj
        match j, hne with
        | 0, _ => rfl
        | 1, _ => rfl
        | 2, _ => rfl
        | 3, _ => rfl
        | 4, _ => rfl
        | 5, _ => rfl
        | 6, _ => rfl
        | 7, _ => rfl
        | 8, hne => exact absurd rfl hne
        | 9, _ => rfl
        | 10, _ => rfl
        | 11, _ => rfl
        | 12, _ => rfl
        | 13, _ => rfl
        | 14, _ => rfl
        | 15, _ => rfl
        | j + 16, _ => rfl
    | 9, hd =>
      have e1 := o2 a hot
      exact wpOp_of _ rfl rfl (v_move (.tmp 2) _ rfl e1 ⟨p, _, rfl, rfl, q1C_set (hlt hs (by decide)) (by decide) (by decide) (by decide) hc, fun j _ => rfl⟩)
    | 10, hd =>
      have e1 := veval_of (hvl 9 _ rfl (hdp 9 (by decide)))
      exact wpOp_of _ rfl rfl (v_nil (.tmp 19) _ rfl e1 ⟨p, _, rfl, rfl, q1C_set (hlt hs (by decide)) (by decide) (by decide) (by decide) hc, fun j _ => rfl⟩)
    | 11, hd =>
      have e1 := veval_of (hvl 10 _ rfl (hdp 10 (by decide)))
      exact wpOp_of _ rfl rfl (v_f48b (.tmp 20) _ _ rfl e1 ⟨p, _, rfl, rfl, q1C_set (hlt hs (by decide)) (by decide) (by decide) (by decide) hc, fun j _ => rfl⟩)
    | 12, hd =>
      have e1 := veval_of (hvl 11 _ rfl (hdp 11 (by decide)))
      exact wpOp_of _ rfl rfl (v_load46 (.tmp 21) _ _ _ rfl e1 (hFC _ _ _ hc).2.2 ⟨p, _, rfl, rfl, q1C_set (hlt hs (by decide)) (by decide) (by decide) (by decide) hc, fun j _ => rfl⟩)
    | 13, hd =>
      have e1 := hvl 12 _ rfl (hdp 12 (by decide))
      have n13 : listed.getD 14 false = false := by
        cases e : listed.getD 14 false with
        | false => rfl
        | true => rw [hdn 14 e 13 (by decide)] at hno; cases hno
      obtain ⟨c1, c2, c3⟩ := hc.1 n13
      refine wpOp_of _ rfl rfl (v_build96 22 _ rfl e1 ⟨{ p with gb := w'.heap.size }, _, rfl, rfl, ?_, fun j hj => ?_⟩)
      · have hsz := hlt (i := 13) hs (by decide)
        have hks : w.heap.size ≤ w'.heap.size := c1.size
        unfold q1C
        rw [got_set hsz, got_set hsz, got_set hsz, if_neg (by decide), if_neg (by decide), if_pos rfl]
        refine ⟨fun _ => ⟨c1.alloc _, fun h => ⟨(c2 h).1.keep ((Keep.refl _).alloc _), (c2 h).2⟩, fun _ => ⟨Arr.new w' 46 _, hks⟩⟩, fun h => ?_⟩
        rw [n13] at h; cases h
      · have hne : j ≠ 13 := fun e => by rw [e, hno] at hj; cases hj
        match j, hne with
        | 0, _ => rfl
        | 1, _ => rfl
        | 2, _ => rfl
        | 3, _ => rfl
        | 4, _ => rfl
        | 5, _ => rfl
        | 6, _ => rfl
        | 7, _ => rfl
        | 8, _ => rfl
        | 9, _ => rfl
        | 10, _ => rfl
        | 11, _ => rfl
        | 12, _ => rfl
        | 13, hne => exact absurd rfl hne
        | 14, _ => rfl
        | 15, _ => rfl
        | j + 16, _ => rfl
    | 14, hd =>
      have e1 := veval_of (hvl 3 _ rfl (hdp 3 (by decide)))
      have e2 := veval_of (hvl 8 _ rfl (hdp 8 (by decide)))
      have e3 := veval_of (hvl 13 _ rfl (hdp 13 (by decide)))
      obtain ⟨c1, c2, c3⟩ := hc.1 hno
      obtain ⟨c4, c5⟩ := c2 (hdp 8 (by decide))
      obtain ⟨c6, c7⟩ := c3 (hdp 13 (by decide))
      refine wpOp_of _ rfl rfl (v_call 71 _ _ rfl _ Try.func71 (by kernel_rfl) (by kernel_rfl) #[.pointer (some ⟨gc, 0, none⟩), .slice (some ⟨p.ga, 0, none⟩) 1 1, .slice (some ⟨p.gb, 0, none⟩) 1 1] (by simp [e1, e2, e3]) ((hC _ _ _ c1 c4 c6 c5 c7).mono ?_))
      rintro e w2 ⟨bit, rfl, hr⟩
      refine ⟨_, rfl, { p with bit := bit }, _, rfl, rfl, ?_, fun j hj => ?_⟩
      · have hsz := hlt (i := 14) hs (by decide)
        unfold q1C
        rw [got_set hsz, if_pos rfl]
        exact ⟨(fun h => by cases h), fun _ => hr⟩
      · have hne : j ≠ 14 ∧ j ≠ 15 := by
          refine ⟨fun e => ?_, fun e => ?_⟩
          · rw [e, hno] at hj; cases hj
          · rw [e] at hj
            rw [hdn 15 hj 14 (by decide)] at hno; cases hno
        match j, hne with
        | 0, _ => rfl
        | 1, _ => rfl
        | 2, _ => rfl
        | 3, _ => rfl
        | 4, _ => rfl
        | 5, _ => rfl
        | 6, _ => rfl
        | 7, _ => rfl
        | 8, _ => rfl
        | 9, _ => rfl
        | 10, _ => rfl
        | 11, _ => rfl
        | 12, _ => rfl
        | 13, _ => rfl
        | 14, hne => exact absurd rfl hne.1
        | 15, hne => exact absurd rfl hne.2
        | j + 16, _ => rfl
    | 15, hd =>
      have e1 := veval_of (hvl 14 _ rfl (hdp 14 (by decide)))
      exact wpOp_of _ rfl rfl (v_assign (.tmp 24) _ rfl e1 ⟨p, _, rfl, rfl, q1C_set (hlt hs (by decide)) (by decide) (by decide) (by decide) hc, fun j _ => rfl⟩)
    | i + 16, hd => simp at hd
  · intro listed p W hall hc
    have hr := hc.2 (hall 14 (by decide))
    show wpOps Try.prog q1 Q [] _ W
    exact hend p W hr
end Go.Proofs.Qxb6500772a
