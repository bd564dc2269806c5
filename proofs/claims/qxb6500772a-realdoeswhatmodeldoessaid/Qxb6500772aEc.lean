/- The region of an assignment. -/
import Derived.Test.Qxb6500772aEb
namespace Go.Proofs.Qxb6500772a
open Go Go.RowKit Go.Qm
set_option linter.unusedVariables false
set_option linter.unusedSimpArgs false
section
variable {o : Oper} {a : Act} {w : World} {K : Act → World → Prop} {Q : Exit → Act → World → Prop}
theorem v_load109 (x : Operand) (g : Nat) (v0 v1 v2 v3 v4 v5 v6 v7 : Value) (ho : o.op = .load 109 x) (hx : a.eval x = .pointer (some ⟨g, 0, none⟩)) (c0 : w.cell? ⟨g, 0, none⟩ = some v0) (c1 : w.cell? ⟨g, 1, none⟩ = some v1) (c2 : w.cell? ⟨g, 2, none⟩ = some v2) (c3 : w.cell? ⟨g, 3, none⟩ = some v3) (c4 : w.cell? ⟨g, 4, none⟩ = some v4) (c5 : w.cell? ⟨g, 5, none⟩ = some v5) (c6 : w.cell? ⟨g, 6, none⟩ = some v6) (c7 : w.cell? ⟨g, 7, none⟩ = some v7) (h : K (a.put o.dst (.agg #[v0, v1, v2, v3, v4, v5, v6, v7])) w) : o.wp Try.prog a w K Q := by
  unfold Oper.wp execOp
  simp only [ho, hx]
  simp [go_sem, c0, c1, c2, c3, c4, c5, c6, c7]
  exact h
end
structure Gv where
  gV : Nat
  va : Option Addr
  vc : Nat
def s5 : Array Oper := #[{ dst := some 20, op := Op.move (Operand.tmp 2), type := 91, pos := "exec.go:93", after := #[], guard := none }, { dst := some 21, op := Op.nilCheck (Operand.tmp 20), type := 0, pos := "exec.go:93", after := #[{ on := 0, ground := Ground.data }], guard := none }, { dst := some 22, op := Op.fieldAddr 48 (Operand.tmp 21) 0, type := 0, pos := "exec.go:93", after := #[{ on := 1, ground := Ground.data }], guard := none }, { dst := some 23, op := Op.load 45 (Operand.tmp 22), type := 45, pos := "exec.go:93", after := #[{ on := 2, ground := Ground.data }], guard := none }, { dst := some 24, op := Op.fieldAddr 109 (Operand.tmp 7) 1, type := 0, pos := "exec.go:93", after := #[], guard := none }, { dst := some 25, op := Op.load 3 (Operand.tmp 24), type := 3, pos := "exec.go:93", after := #[{ on := 4, ground := Ground.data }], guard := none }, { dst := some 26, op := Op.move (Operand.tmp 0), type := 85, pos := "exec.go:93", after := #[], guard := none }, { dst := some 27, op := Op.load 109 (Operand.tmp 7), type := 109, pos := "exec.go:93", after := #[], guard := none }, { dst := some 28, op := Op.move (Operand.tmp 2), type := 91, pos := "exec.go:93", after := #[], guard := none }, { dst := some 29, op := Op.call { callee := Callee.value (Operand.func 63), args := #[Operand.tmp 26, Operand.tmp 27, Operand.tmp 28], argTypes := #[85, 109, 91] }, type := 45, pos := "exec.go:93", after := #[{ on := 6, ground := Ground.data }, { on := 7, ground := Ground.data }, { on := 8, ground := Ground.data }], guard := none }, { dst := some 30, op := Op.indexAddr 45 (Operand.tmp 29) (Operand.const (Value.int IntKind.i64 0)), type := 0, pos := "exec.go:93", after := #[{ on := 9, ground := Ground.data }], guard := none }, { dst := some 31, op := Op.load 96 (Operand.tmp 30), type := 96, pos := "exec.go:93", after := #[{ on := 10, ground := Ground.data }], guard := none }, { dst := some 32, op := Op.indexAddr 45 (Operand.tmp 23) (Operand.tmp 25), type := 0, pos := "exec.go:93", after := #[{ on := 3, ground := Ground.data }, { on := 5, ground := Ground.data }, { on := 0, ground := Ground.phase }, { on := 1, ground := Ground.phase }, { on := 2, ground := Ground.phase }, { on := 3, ground := Ground.phase }, { on := 4, ground := Ground.phase }, { on := 5, ground := Ground.phase }, { on := 6, ground := Ground.phase }, { on := 7, ground := Ground.phase }, { on := 8, ground := Ground.phase }, { on := 9, ground := Ground.phase }, { on := 10, ground := Ground.phase }, { on := 11, ground := Ground.phase }], guard := none }, { dst := none, op := Op.store 96 (Operand.tmp 32) (Operand.tmp 31), type := 0, pos := "exec.go:93", after := #[{ on := 12, ground := Ground.data }, { on := 11, ground := Ground.data }, { on := 9, ground := Ground.chain }, { on := 0, ground := Ground.phase }, { on := 1, ground := Ground.phase }, { on := 2, ground := Ground.phase }, { on := 3, ground := Ground.phase }, { on := 4, ground := Ground.phase }, { on := 5, ground := Ground.phase }, { on := 6, ground := Ground.phase }, { on := 7, ground := Ground.phase }, { on := 8, ground := Ground.phase }, { on := 9, ground := Ground.phase }, { on := 10, ground := Ground.phase }, { on := 11, ground := Ground.phase }], guard := none }]
def s5L (gB gF oF gW gZ N C D : Nat) (kk fl fa fb : Int) (ev tv lv : Value) (p : Gv) : List (Nat × Value) := [(20, .pointer (some ⟨gF, oF, none⟩)), (21, .pointer (some ⟨gF, oF, none⟩)), (22, .pointer (some ⟨gF, oF, none⟩)), (23, .slice (some ⟨gW, 0, none⟩) N N), (24, .pointer (some ⟨gZ, 1, none⟩)), (25, .int .i64 ((C : Nat) : Int)), (26, .pointer (some ⟨gB, 0, none⟩)), (27, Value.agg #[.int .i64 kk, .int .i64 ((C : Nat) : Int), .int .i64 fl, .int .i64 fa, .int .i64 fb, ev, tv, lv]), (28, .pointer (some ⟨gF, oF, none⟩)), (29, .slice (some ⟨p.gV, 0, none⟩) 1 1), (30, .pointer (some ⟨p.gV, 0 + 0, none⟩)), (31, .slice p.va D p.vc), (32, .pointer (some ⟨gW, 0 + C, none⟩))]
theorem s5_chk : chk s5 13 = true := by kernel_rfl
def s5C (w0 : World) (R : Gv → World → Prop) (listed : Array Bool) (p : Gv) (w : World) : Prop := (listed.getD 9 false = false → w = w0.drew) ∧ (listed.getD 9 false = true → R p w)
theorem s5C_set {w0 : World} {R : Gv → World → Prop} {listed : Array Bool} {p : Gv} {w : World} {i : Nat} (hi : i < listed.size) (h9 : i ≠ 9) (h : s5C w0 R listed p w) : s5C w0 R (listed.setIfInBounds i true) p w := by
  unfold s5C at *
  rw [got_set hi, if_neg h9]
  exact h
set_option maxRecDepth 4000 in
set_option maxHeartbeats 4000000 in
theorem s5_c {Q : Exit → Act → World → Prop} {a0 : Act} {w : World} (gB gF oF gW gZ N C D : Nat) (kk fl fa fb : Int) (ev tv lv : Value) (hz0 : a0.tmps.size = 104)
    (h2 : a0.tmps[2]? = some (.pointer (some ⟨gF, oF, none⟩))) (h0 : a0.tmps[0]? = some (.pointer (some ⟨gB, 0, none⟩))) (h7 : a0.tmps[7]? = some (.pointer (some ⟨gZ, 0, none⟩)))
    (R : Gv → World → Prop) (hCN : C < N) (hF : ∀ W, W = w.drew → W.cell? ⟨gF, oF, none⟩ = some (.slice (some ⟨gW, 0, none⟩) N N) ∧ W.cell? ⟨gZ, 0, none⟩ = some (.int .i64 kk) ∧ W.cell? ⟨gZ, 1, none⟩ = some (.int .i64 ((C : Nat) : Int)) ∧ W.cell? ⟨gZ, 2, none⟩ = some (.int .i64 fl) ∧ W.cell? ⟨gZ, 3, none⟩ = some (.int .i64 fa) ∧ W.cell? ⟨gZ, 4, none⟩ = some (.int .i64 fb) ∧ W.cell? ⟨gZ, 5, none⟩ = some ev ∧ W.cell? ⟨gZ, 6, none⟩ = some tv ∧ W.cell? ⟨gZ, 7, none⟩ = some lv) (hG : ∀ p W, R p W → (W.cell? ⟨gF, oF, none⟩ = some (.slice (some ⟨gW, 0, none⟩) N N) ∧ W.cell? ⟨gZ, 0, none⟩ = some (.int .i64 kk) ∧ W.cell? ⟨gZ, 1, none⟩ = some (.int .i64 ((C : Nat) : Int)) ∧ W.cell? ⟨gZ, 2, none⟩ = some (.int .i64 fl) ∧ W.cell? ⟨gZ, 3, none⟩ = some (.int .i64 fa) ∧ W.cell? ⟨gZ, 4, none⟩ = some (.int .i64 fb) ∧ W.cell? ⟨gZ, 5, none⟩ = some ev ∧ W.cell? ⟨gZ, 6, none⟩ = some tv ∧ W.cell? ⟨gZ, 7, none⟩ = some lv) ∧ W.cell? ⟨p.gV, 0 + 0, none⟩ = some (.slice p.va D p.vc))
    (hC : Calls Try.prog 63 #[.pointer (some ⟨gB, 0, none⟩), Value.agg #[.int .i64 kk, .int .i64 ((C : Nat) : Int), .int .i64 fl, .int .i64 fa, .int .i64 fb, ev, tv, lv], .pointer (some ⟨gF, oF, none⟩)] w.drew fun e w' => ∃ p : Gv, e = .returned (.slice (some ⟨p.gV, 0, none⟩) 1 1) ∧ R p w')
    (hend : ∀ p W, R p W → (∃ u, W.cell? ⟨gW, 0 + C, none⟩ = some u) ∧ W.frozen? ⟨gW, 0 + C, none⟩ = false ∧ Q .normal (lay a0 (s5L gB gF oF gW gZ N C D kk fl fa fb ev tv lv p)) (W.setCell ⟨gW, 0 + C, none⟩ (.slice p.va D p.vc))) :
    (Code.region 5 s5 true).wp Try.prog Q a0 w := by
  have o2 : ∀ a : Act, (∀ t, t ∉ [20, 21, 22, 23, 24, 25, 26, 27, 28, 29, 30, 31, 32] → a.tmps[t]? = a0.tmps[t]?) → a.eval (.tmp 2) = .pointer (some ⟨gF, oF, none⟩) := fun a hot => veval_of ((hot 2 (by decide)).trans h2)
  have o0 : ∀ a : Act, (∀ t, t ∉ [20, 21, 22, 23, 24, 25, 26, 27, 28, 29, 30, 31, 32] → a.tmps[t]? = a0.tmps[t]?) → a.eval (.tmp 0) = .pointer (some ⟨gB, 0, none⟩) := fun a hot => veval_of ((hot 0 (by decide)).trans h0)
  have o7 : ∀ a : Act, (∀ t, t ∉ [20, 21, 22, 23, 24, 25, 26, 27, 28, 29, 30, 31, 32] → a.tmps[t]? = a0.tmps[t]?) → a.eval (.tmp 7) = .pointer (some ⟨gZ, 0, none⟩) := fun a hot => veval_of ((hot 7 (by decide)).trans h7)
  have hFC : ∀ listed p W, s5C w R listed p W → W.cell? ⟨gF, oF, none⟩ = some (.slice (some ⟨gW, 0, none⟩) N N) ∧ W.cell? ⟨gZ, 0, none⟩ = some (.int .i64 kk) ∧ W.cell? ⟨gZ, 1, none⟩ = some (.int .i64 ((C : Nat) : Int)) ∧ W.cell? ⟨gZ, 2, none⟩ = some (.int .i64 fl) ∧ W.cell? ⟨gZ, 3, none⟩ = some (.int .i64 fa) ∧ W.cell? ⟨gZ, 4, none⟩ = some (.int .i64 fb) ∧ W.cell? ⟨gZ, 5, none⟩ = some ev ∧ W.cell? ⟨gZ, 6, none⟩ = some tv ∧ W.cell? ⟨gZ, 7, none⟩ = some lv := fun listed p W h => by
    cases e : listed.getD 9 false with
    | false => exact hF W (h.1 e)
    | true => exact (hG _ W (h.2 e)).1
  have hlt : ∀ {i : Nat} {l : Array Bool}, l.size = s5.size → i < 13 → i < l.size := fun h h' => by
    rw [h]; exact Nat.lt_of_lt_of_le h' (by decide)
  refine wp_region_gh (by rfl) 13 [20, 21, 22, 23, 24, 25, 26, 27, 28, 29, 30, 31, 32] (s5L gB gF oF gW gZ N C D kk fl fa fb ev tv lv) (fun _ => rfl) rfl (by decide) s5_chk (by decide) (by
    intro d hd
    rw [hz0]
    have : ∀ y ∈ [20, 21, 22, 23, 24, 25, 26, 27, 28, 29, 30, 31, 32], y < 104 := by decide
    exact this _ hd) (s5C w R) ⟨⟨0, none, 0⟩, ?_⟩ ?_ ?_
  · exact ⟨fun _ => rfl, fun h => absurd h (by decide)⟩
  · intro i d hd listed p a w' hs hdn hno hdp hc hot hvl
    match i, hd with
    | 0, hd =>
      have e1 := o2 a hot
      exact wpOp_of _ rfl rfl (v_move (.tmp 2) _ rfl e1 ⟨p, _, rfl, rfl, s5C_set (hlt hs (by decide)) (by decide) hc, fun j _ => rfl⟩)
    | 1, hd =>
      have e1 := veval_of (hvl 0 _ rfl (hdp 0 (by decide)))
      exact wpOp_of _ rfl rfl (v_nil (.tmp 20) _ rfl e1 ⟨p, _, rfl, rfl, s5C_set (hlt hs (by decide)) (by decide) hc, fun j _ => rfl⟩)
    | 2, hd =>
      have e1 := veval_of (hvl 1 _ rfl (hdp 1 (by decide)))
      exact wpOp_of _ rfl rfl (v_f48 (.tmp 21) _ _ rfl e1 ⟨p, _, rfl, rfl, s5C_set (hlt hs (by decide)) (by decide) hc, fun j _ => rfl⟩)
    | 3, hd =>
      have e1 := veval_of (hvl 2 _ rfl (hdp 2 (by decide)))
      exact wpOp_of _ rfl rfl (v_load45 (.tmp 22) _ _ _ rfl e1 (hFC _ _ _ hc).1 ⟨p, _, rfl, rfl, s5C_set (hlt hs (by decide)) (by decide) hc, fun j _ => rfl⟩)
    | 4, hd =>
      have e1 := o7 a hot
      exact wpOp_of _ rfl rfl (v_f109 (.tmp 7) _ rfl e1 ⟨p, _, rfl, rfl, s5C_set (hlt hs (by decide)) (by decide) hc, fun j _ => rfl⟩)
    | 5, hd =>
      have e1 := veval_of (hvl 4 _ rfl (hdp 4 (by decide)))
      exact wpOp_of _ rfl rfl (v_load3 (.tmp 24) _ _ _ rfl e1 (hFC _ _ _ hc).2.2.1 ⟨p, _, rfl, rfl, s5C_set (hlt hs (by decide)) (by decide) hc, fun j _ => rfl⟩)
    | 6, hd =>
      have e1 := o0 a hot
      exact wpOp_of _ rfl rfl (v_move (.tmp 0) _ rfl e1 ⟨p, _, rfl, rfl, s5C_set (hlt hs (by decide)) (by decide) hc, fun j _ => rfl⟩)
    | 7, hd =>
      have e1 := o7 a hot
      obtain ⟨-, f0, f1, f2, f3, f4, f5, f6, f7⟩ := hFC _ _ _ hc
      exact wpOp_of _ rfl rfl (v_load109 (.tmp 7) _ _ _ _ _ _ _ _ _ rfl e1 f0 f1 f2 f3 f4 f5 f6 f7 ⟨p, _, rfl, rfl, s5C_set (hlt hs (by decide)) (by decide) hc, fun j _ => rfl⟩)
    | 8, hd =>
      have e1 := o2 a hot
      exact wpOp_of _ rfl rfl (v_move (.tmp 2) _ rfl e1 ⟨p, _, rfl, rfl, s5C_set (hlt hs (by decide)) (by decide) hc, fun j _ => rfl⟩)
    | 9, hd =>
      have e1 := veval_of (hvl 6 _ rfl (hdp 6 (by decide)))
      have e2 := veval_of (hvl 7 _ rfl (hdp 7 (by decide)))
      have e3 := veval_of (hvl 8 _ rfl (hdp 8 (by decide)))
      have hw := hc.1 hno
      subst hw
      refine wpOp_of _ rfl rfl (v_call 63 _ _ rfl _ Try.func63 (by kernel_rfl) (by kernel_rfl) #[.pointer (some ⟨gB, 0, none⟩), Value.agg #[.int .i64 kk, .int .i64 ((C : Nat) : Int), .int .i64 fl, .int .i64 fa, .int .i64 fb, ev, tv, lv], .pointer (some ⟨gF, oF, none⟩)] (by simp [e1, e2, e3]) (hC.mono ?_))
      rintro e w2 ⟨p', rfl, hr⟩
      refine ⟨_, rfl, p', _, rfl, rfl, ?_, fun j hj => ?_⟩
      · have hsz := hlt (i := 9) hs (by decide)
        unfold s5C
        rw [got_set hsz, if_pos rfl]
        exact ⟨(fun h => by cases h), fun _ => hr⟩
      · have hne : j ≠ 9 ∧ j ≠ 10 ∧ j ≠ 11 := by
          have n10 : listed.getD 10 false = false := by
            cases e : listed.getD 10 false with
            | false => rfl
            | true => rw [hdn 10 e 9 (by decide)] at hno; cases hno
          refine ⟨fun e => ?_, fun e => ?_, fun e => ?_⟩
          · rw [e, hno] at hj; cases hj
          · rw [e, n10] at hj; cases hj
          · rw [e] at hj
            rw [hdn 11 hj 10 (by decide)] at n10; cases n10
        match j, hne with
        | 0, _ => rfl
        | 1, _ => rfl
        | 2, _ => rfl
        | 3, _ => rfl
        | 4, _ => rfl
        | 5, _ => rfl
        | 6, _ => rfl
        | 7, _ => rfl
        | 8, _ => rfl
        | 9, hne => exact absurd rfl hne.1
        | 10, hne => exact absurd rfl hne.2.1
        | 11, hne => exact absurd rfl hne.2.2
        | 12, _ => rfl
        | j + 13, _ => rfl
    | 10, hd =>
      have e1 := veval_of (hvl 9 _ rfl (hdp 9 (by decide)))
      exact wpOp_of _ rfl rfl (v_index45 (.tmp 29) (.const (.int .i64 0)) _ _ _ _ 0 rfl e1 rfl (by decide) ⟨p, _, rfl, rfl, s5C_set (hlt hs (by decide)) (by decide) hc, fun j _ => rfl⟩)
    | 11, hd =>
      have e1 := veval_of (hvl 10 _ rfl (hdp 10 (by decide)))
      have h13 : listed.getD 9 false = true := hdn 10 (hdp 10 (by decide)) 9 (by decide)
      exact wpOp_of _ rfl rfl (v_load96 (.tmp 30) _ _ _ rfl e1 (hG _ _ (hc.2 h13)).2 ⟨p, _, rfl, rfl, s5C_set (hlt hs (by decide)) (by decide) hc, fun j _ => rfl⟩)
    | 12, hd =>
      have e1 := veval_of (hvl 3 _ rfl (hdp 3 (by decide)))
      have e2 := veval_of (hvl 5 _ rfl (hdp 5 (by decide)))
      exact wpOp_of _ rfl rfl (v_index45 (.tmp 23) (.tmp 25) _ _ _ _ C rfl e1 e2 hCN ⟨p, _, rfl, rfl, s5C_set (hlt hs (by decide)) (by decide) hc, fun j _ => rfl⟩)
    | i + 13, hd => simp at hd
  · intro listed p W hall hc
    have hr := hc.2 (hall 9 (by decide))
    obtain ⟨⟨u, g2⟩, g3, g4⟩ := hend p W hr
    have hnd : ((s5L gB gF oF gW gZ N C D kk fl fa fb ev tv lv p).map Prod.fst).Nodup := by
      rw [show (s5L gB gF oF gW gZ N C D kk fl fa fb ev tv lv p).map Prod.fst = [20, 21, 22, 23, 24, 25, 26, 27, 28, 29, 30, 31, 32] from rfl]; decide
    have hs2 : ∀ x ∈ s5L gB gF oF gW gZ N C D kk fl fa fb ev tv lv p, x.1 < a0.tmps.size := by
      intro x hx
      have hx1 : x.1 ∈ (s5L gB gF oF gW gZ N C D kk fl fa fb ev tv lv p).map Prod.fst := List.mem_map_of_mem hx
      rw [show (s5L gB gF oF gW gZ N C D kk fl fa fb ev tv lv p).map Prod.fst = [20, 21, 22, 23, 24, 25, 26, 27, 28, 29, 30, 31, 32] from rfl] at hx1
      rw [hz0]
      have : ∀ y ∈ [20, 21, 22, 23, 24, 25, 26, 27, 28, 29, 30, 31, 32], y < 104 := by decide
      exact this _ hx1
    have k1 : (lay a0 (s5L gB gF oF gW gZ N C D kk fl fa fb ev tv lv p)).tmps[32]? = some (.pointer (some ⟨gW, 0 + C, none⟩)) := lay_at _ a0 hnd hs2 (32, .pointer (some ⟨gW, 0 + C, none⟩)) (List.mem_of_getElem? (i := 12) rfl)
    have k2 : (lay a0 (s5L gB gF oF gW gZ N C D kk fl fa fb ev tv lv p)).tmps[31]? = some (.slice p.va D p.vc) := lay_at _ a0 hnd hs2 (31, .slice p.va D p.vc) (List.mem_of_getElem? (i := 11) rfl)
    generalize lay a0 (s5L gB gF oF gW gZ N C D kk fl fa fb ev tv lv p) = A at *
    show wpOps Try.prog s5 Q [13] A W
    rw [wpOps_cons]
    exact wpOp_of _ rfl rfl (v_store96 (.tmp 32) (.tmp 31) _ _ _ u ⟨_, _, _, rfl⟩ rfl rfl (veval_of k1) (veval_of k2) g2 g3 g4)
end Go.Proofs.Qxb6500772a
