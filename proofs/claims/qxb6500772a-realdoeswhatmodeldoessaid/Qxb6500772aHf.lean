/- blast: Build's regions that append a frame. -/
import Derived.Test.Qxb6500772aEf
import Derived.Test.Qxb6500772aHd
namespace Go.Proofs.Qxb6500772a
open Go Go.RowKit Go.Qm
set_option linter.unusedVariables false
set_option linter.unusedSimpArgs false
section
variable {o : Oper} {a : Act} {w : World} {K : Act → World → Prop} {Q : Exit → Act → World → Prop}
theorem v_append (s x : Operand) (t : TypeId) (ho : o.op = .call { callee := .builtin .append, args := #[s, x], argTypes := #[t, t] }) (v xv v' : Value) (w' : World) (hs : a.eval s = v) (hx : a.eval x = xv) (hr : (Builtin.append_ #[t, t] o.type #[v, xv]).run Try.prog w = .ok v' w') (h : K (a.put o.dst v') w') : o.wp Try.prog a w K Q := by
  unfold Oper.wp execOp
  simp only [ho, resolve, invoke, builtin, Sem.run_bind, Sem.run_pure, Result.andThen_ok, List.map_toArray, List.map_cons, List.map_nil, hs, hx, hr]
  exact h
theorem v_build49 (t : Nat) (v0 v1 : Value) (ho : o.op = .buildSlice 49 1 #[(0, .tmp t)]) (hx : a.tmps[t]? = some (.agg #[v0, v1])) (h : K (a.put o.dst (.slice (some ⟨w.heap.size, 0, none⟩) 1 1)) (w.alloc (.cells #[v0, v1] 48))) : o.wp Try.prog a w K Q := by
  unfold Oper.wp execOp
  simp only [ho]
  simp [go_sem, hx]
  exact h
set_option maxRecDepth 8000 in
theorem v_f52 (x : Operand) (i g k : Nat) (ho : o.op = .fieldAddr 52 x i) (hi : (i = 1 ∧ k = 1) ∨ (i = 3 ∧ k = 5) ∨ (i = 4 ∧ k = 7)) (hx : a.eval x = .pointer (some ⟨g, 0, none⟩)) (h : K (a.put o.dst (.pointer (some ⟨g, k, none⟩))) w) : o.wp Try.prog a w K Q := by
  unfold Oper.wp execOp
  simp only [ho, hx]
  rcases hi with ⟨rfl, rfl⟩ | ⟨rfl, rfl⟩ | ⟨rfl, rfl⟩ <;> (simp [go_sem]; exact h)
theorem v_load49 (x : Operand) (g k : Nat) (v : Value) (ho : o.op = .load 49 x) (hx : a.eval x = .pointer (some ⟨g, k, none⟩)) (hc : w.cell? ⟨g, k, none⟩ = some v) (h : K (a.put o.dst v) w) : o.wp Try.prog a w K Q := by
  unfold Oper.wp execOp
  simp only [ho, hx]
  simp [go_sem, hc]
  exact h
theorem v_load48 (x : Operand) (g k : Nat) (v0 v1 : Value) (ho : o.op = .load 48 x) (hx : a.eval x = .pointer (some ⟨g, k, none⟩)) (hc : w.cell? ⟨g, k, none⟩ = some v0) (hc1 : w.cell? ⟨g, k + 1, none⟩ = some v1) (h : K (a.put o.dst (.agg #[v0, v1])) w) : o.wp Try.prog a w K Q := by
  unfold Oper.wp execOp
  simp only [ho, hx]
  simp [go_sem, hc, hc1]
  exact h
theorem v_store49 (x y : Operand) (g k : Nat) (b : Option Addr) (m c : Nat) (u : Value) (ho : o.op = .store 49 x y) (hd : o.dst = none) (hx : a.eval x = .pointer (some ⟨g, k, none⟩)) (hy : a.eval y = .slice b m c) (hc : w.cell? ⟨g, k, none⟩ = some u) (hz : w.frozen? ⟨g, k, none⟩ = false) (h : K a (w.setCell ⟨g, k, none⟩ (.slice b m c))) : o.wp Try.prog a w K Q := by
  unfold Oper.wp execOp
  simp only [ho, hx, hy]
  simp [go_sem, hc, hz, hd, Act.put]
  exact h
end
structure Gp where
  gN : Nat
  gb : Nat
  va : Option Addr
  vm : Nat
  vc : Nat
def u14 : Array Oper := #[{ dst := some 75, op := Go.Op.move (Go.Operand.tmp 5), type := 41, pos := "system.go:72", after := #[], guard := none }, { dst := some 76, op := Go.Op.move (Go.Operand.tmp 5), type := 41, pos := "system.go:72", after := #[], guard := none }, { dst := some 77, op := Go.Op.nilCheck (Go.Operand.tmp 76), type := 0, pos := "system.go:72", after := #[{ on := 1, ground := Go.Ground.data }], guard := none }, { dst := some 78, op := Go.Op.fieldAddr 52 (Go.Operand.tmp 77) 4, type := 0, pos := "system.go:72", after := #[{ on := 2, ground := Go.Ground.data }], guard := none }, { dst := some 79, op := Go.Op.load 49 (Go.Operand.tmp 78), type := 49, pos := "system.go:72", after := #[{ on := 3, ground := Go.Ground.data }], guard := none }, { dst := some 80, op := Go.Op.move (Go.Operand.tmp 5), type := 41, pos := "system.go:72", after := #[], guard := none }, { dst := some 81, op := Go.Op.nilCheck (Go.Operand.tmp 80), type := 0, pos := "system.go:72", after := #[{ on := 5, ground := Go.Ground.data }], guard := none }, { dst := some 82, op := Go.Op.fieldAddr 52 (Go.Operand.tmp 81) 3, type := 0, pos := "system.go:72", after := #[{ on := 6, ground := Go.Ground.data }], guard := none }, { dst := some 83, op := Go.Op.call { callee := Go.Callee.value (Go.Operand.func 27), args := #[Go.Operand.tmp 82], argTypes := #[48] }, type := 48, pos := "system.go:72", after := #[{ on := 7, ground := Go.Ground.data }], guard := none }, { dst := some 84, op := Go.Op.buildSlice 49 1 #[(0, Go.Operand.tmp 83)], type := 49, pos := "system.go:72", after := #[{ on := 8, ground := Go.Ground.data }], guard := none }, { dst := some 85, op := Go.Op.call { callee := Go.Callee.builtin Go.Builtin.append, args := #[Go.Operand.tmp 79, Go.Operand.tmp 84], argTypes := #[49, 49] }, type := 49, pos := "system.go:72", after := #[{ on := 4, ground := Go.Ground.data }, { on := 9, ground := Go.Ground.data }, { on := 8, ground := Go.Ground.chain }], guard := none }, { dst := some 86, op := Go.Op.nilCheck (Go.Operand.tmp 75), type := 0, pos := "system.go:72", after := #[{ on := 0, ground := Go.Ground.data }, { on := 0, ground := Go.Ground.phase }, { on := 1, ground := Go.Ground.phase }, { on := 2, ground := Go.Ground.phase }, { on := 3, ground := Go.Ground.phase }, { on := 4, ground := Go.Ground.phase }, { on := 5, ground := Go.Ground.phase }, { on := 6, ground := Go.Ground.phase }, { on := 7, ground := Go.Ground.phase }, { on := 8, ground := Go.Ground.phase }, { on := 9, ground := Go.Ground.phase }, { on := 10, ground := Go.Ground.phase }], guard := none }, { dst := some 87, op := Go.Op.fieldAddr 52 (Go.Operand.tmp 86) 4, type := 0, pos := "system.go:72", after := #[{ on := 11, ground := Go.Ground.data }, { on := 0, ground := Go.Ground.phase }, { on := 1, ground := Go.Ground.phase }, { on := 2, ground := Go.Ground.phase }, { on := 3, ground := Go.Ground.phase }, { on := 4, ground := Go.Ground.phase }, { on := 5, ground := Go.Ground.phase }, { on := 6, ground := Go.Ground.phase }, { on := 7, ground := Go.Ground.phase }, { on := 8, ground := Go.Ground.phase }, { on := 9, ground := Go.Ground.phase }, { on := 10, ground := Go.Ground.phase }], guard := none }, { dst := none, op := Go.Op.store 49 (Go.Operand.tmp 87) (Go.Operand.tmp 85), type := 0, pos := "system.go:72", after := #[{ on := 12, ground := Go.Ground.data }, { on := 10, ground := Go.Ground.data }, { on := 10, ground := Go.Ground.chain }, { on := 0, ground := Go.Ground.phase }, { on := 1, ground := Go.Ground.phase }, { on := 2, ground := Go.Ground.phase }, { on := 3, ground := Go.Ground.phase }, { on := 4, ground := Go.Ground.phase }, { on := 5, ground := Go.Ground.phase }, { on := 6, ground := Go.Ground.phase }, { on := 7, ground := Go.Ground.phase }, { on := 8, ground := Go.Ground.phase }, { on := 9, ground := Go.Ground.phase }, { on := 10, ground := Go.Ground.phase }], guard := none }]
def u14L (gS N fb : Nat) (av : Value) (p : Gp) : List (Nat × Value) := [(75, .pointer (some ⟨gS, 0, none⟩)), (76, .pointer (some ⟨gS, 0, none⟩)), (77, .pointer (some ⟨gS, 0, none⟩)), (78, .pointer (some ⟨gS, 7, none⟩)), (79, av), (80, .pointer (some ⟨gS, 0, none⟩)), (81, .pointer (some ⟨gS, 0, none⟩)), (82, .pointer (some ⟨gS, 5, none⟩)), (83, .agg #[.slice (some ⟨p.gN, 0, none⟩) N N, .int .i64 ((fb : Nat) : Int)]), (84, .slice (some ⟨p.gb, 0, none⟩) 1 1), (85, .slice p.va p.vm p.vc), (86, .pointer (some ⟨gS, 0, none⟩)), (87, .pointer (some ⟨gS, 7, none⟩))]
theorem u14_chk : chk u14 13 = true := by kernel_rfl
def u14C (w0 : World) (N fb : Nat) (RA : Nat → World → Prop) (RC : Nat → Value → World → Prop) (listed : Array Bool) (p : Gp) (w : World) : Prop :=
  (listed.getD 8 false = false → w = w0.drew) ∧ (listed.getD 8 false = true → listed.getD 9 false = false → RA p.gN w) ∧ (listed.getD 9 false = true → listed.getD 10 false = false → ∃ w1, RA p.gN w1 ∧ p.gb = w1.heap.size ∧ w = w1.alloc (.cells #[.slice (some ⟨p.gN, 0, none⟩) N N, .int .i64 ((fb : Nat) : Int)] 48)) ∧ (listed.getD 10 false = true → RC p.gN (.slice p.va p.vm p.vc) w)
theorem u14C_set {w0 : World} {N fb : Nat} {RA : Nat → World → Prop} {RC : Nat → Value → World → Prop} {listed : Array Bool} {p : Gp} {w : World} {i : Nat} (hi : i < listed.size) (h8 : i ≠ 8) (h9 : i ≠ 9) (h10 : i ≠ 10) (h : u14C w0 N fb RA RC listed p w) : u14C w0 N fb RA RC (listed.setIfInBounds i true) p w := by
  unfold u14C at *
  rw [got_set hi, got_set hi, got_set hi, if_neg h8, if_neg h9, if_neg h10]
  exact h
set_option maxRecDepth 4000 in
set_option maxHeartbeats 4000000 in
theorem u14_c {Q : Exit → Act → World → Prop} {a0 : Act} {w : World} (gS N fb : Nat) (av : Value) (hz0 : a0.tmps.size = 142)
    (h5 : a0.tmps[5]? = some (.pointer (some ⟨gS, 0, none⟩)))
    (RA : Nat → World → Prop) (RC : Nat → Value → World → Prop) (hc0 : w.drew.cell? ⟨gS, 7, none⟩ = some av) (hcA : ∀ g W, RA g W → W.cell? ⟨gS, 7, none⟩ = some av ∧ (W.alloc (.cells #[.slice (some ⟨g, 0, none⟩) N N, .int .i64 ((fb : Nat) : Int)] 48)).cell? ⟨gS, 7, none⟩ = some av)
    (hC : Calls Try.prog 27 #[.pointer (some ⟨gS, 5, none⟩)] w.drew fun e w' => ∃ g : Nat, e = .returned (.agg #[.slice (some ⟨g, 0, none⟩) N N, .int .i64 ((fb : Nat) : Int)]) ∧ RA g w')
    (hP : ∀ g W, RA g W → ∃ b m c w2, (Builtin.append_ #[49, 49] 49 #[av, .slice (some ⟨W.heap.size, 0, none⟩) 1 1]).run Try.prog (W.alloc (.cells #[.slice (some ⟨g, 0, none⟩) N N, .int .i64 ((fb : Nat) : Int)] 48)) = .ok (.slice b m c) w2 ∧ RC g (.slice b m c) w2)
    (hend : ∀ p W, RC p.gN (.slice p.va p.vm p.vc) W → (∃ u, W.cell? ⟨gS, 7, none⟩ = some u) ∧ W.frozen? ⟨gS, 7, none⟩ = false ∧ Q .normal (lay a0 (u14L gS N fb av p)) (W.setCell ⟨gS, 7, none⟩ (.slice p.va p.vm p.vc))) :
    (Code.region 14 u14 true).wp Try.prog Q a0 w := by
  have o5 : ∀ a : Act, (∀ t, t ∉ [75, 76, 77, 78, 79, 80, 81, 82, 83, 84, 85, 86, 87] → a.tmps[t]? = a0.tmps[t]?) → a.eval (.tmp 5) = .pointer (some ⟨gS, 0, none⟩) := fun a hot => veval_of ((hot 5 (by decide)).trans h5)
  have hlt : ∀ {i : Nat} {l : Array Bool}, l.size = u14.size → i < 13 → i < l.size := fun h h' => by
    rw [h]; exact Nat.lt_of_lt_of_le h' (by decide)
  refine wp_region_gh (by rfl) 13 [75, 76, 77, 78, 79, 80, 81, 82, 83, 84, 85, 86, 87] (u14L gS N fb av) (fun _ => rfl) rfl (by decide) u14_chk (by decide) (by
    intro d hd
    rw [hz0]
    have : ∀ y ∈ [75, 76, 77, 78, 79, 80, 81, 82, 83, 84, 85, 86, 87], y < 142 := by decide
    exact this _ hd) (u14C w N fb RA RC) ⟨⟨0, 0, none, 0, 0⟩, ?_⟩ ?_ ?_
  · refine ⟨fun _ => rfl, fun h => absurd h (by decide), fun h => absurd h (by decide), fun h => absurd h (by decide)⟩
  · intro i d hd listed p a w' hs hdn hno hdp hc hot hvl
    match i, hd with
    | 0, hd =>
      have e1 := o5 a hot
      exact wpOp_of _ rfl rfl (v_move (.tmp 5) _ rfl e1 ⟨p, _, rfl, rfl, u14C_set (hlt hs (by decide)) (by decide) (by decide) (by decide) hc, fun j _ => rfl⟩)
    | 1, hd =>
      have e1 := o5 a hot
      exact wpOp_of _ rfl rfl (v_move (.tmp 5) _ rfl e1 ⟨p, _, rfl, rfl, u14C_set (hlt hs (by decide)) (by decide) (by decide) (by decide) hc, fun j _ => rfl⟩)
    | 2, hd =>
      have e1 := veval_of (hvl 1 _ rfl (hdp 1 (by decide)))
      exact wpOp_of _ rfl rfl (v_nil (.tmp 76) _ rfl e1 ⟨p, _, rfl, rfl, u14C_set (hlt hs (by decide)) (by decide) (by decide) (by decide) hc, fun j _ => rfl⟩)
    | 3, hd =>
      have e1 := veval_of (hvl 2 _ rfl (hdp 2 (by decide)))
      exact wpOp_of _ rfl rfl (v_f52 (.tmp 77) 4 _ 7 rfl (by decide) e1 ⟨p, _, rfl, rfl, u14C_set (hlt hs (by decide)) (by decide) (by decide) (by decide) hc, fun j _ => rfl⟩)
    | 4, hd =>
      have e1 := veval_of (hvl 3 _ rfl (hdp 3 (by decide)))
      have n10 : listed.getD 10 false = false := by
        cases e : listed.getD 10 false with
        | false => rfl
        | true => rw [hdn 10 e 4 (by decide)] at hno; cases hno
      have hcell : w'.cell? ⟨gS, 7, none⟩ = some av := by
        cases e8 : listed.getD 8 false with
        | false => rw [hc.1 e8]; exact hc0
        | true =>
          cases e9 : listed.getD 9 false with
          | false => exact (hcA _ _ (hc.2.1 e8 e9)).1
          | true =>
            obtain ⟨w1, r1, -, rfl⟩ := hc.2.2.1 e9 n10
            exact (hcA _ _ r1).2
      exact wpOp_of _ rfl rfl (v_load49 (.tmp 78) _ _ _ rfl e1 hcell ⟨p, _, rfl, rfl, u14C_set (hlt hs (by decide)) (by decide) (by decide) (by decide) hc, fun j _ => rfl⟩)
    | 5, hd =>
      have e1 := o5 a hot
      exact wpOp_of _ rfl rfl (v_move (.tmp 5) _ rfl e1 ⟨p, _, rfl, rfl, u14C_set (hlt hs (by decide)) (by decide) (by decide) (by decide) hc, fun j _ => rfl⟩)
    | 6, hd =>
      have e1 := veval_of (hvl 5 _ rfl (hdp 5 (by decide)))
      exact wpOp_of _ rfl rfl (v_nil (.tmp 80) _ rfl e1 ⟨p, _, rfl, rfl, u14C_set (hlt hs (by decide)) (by decide) (by decide) (by decide) hc, fun j _ => rfl⟩)
    | 7, hd =>
      have e1 := veval_of (hvl 6 _ rfl (hdp 6 (by decide)))
      exact wpOp_of _ rfl rfl (v_f52 (.tmp 81) 3 _ 5 rfl (by decide) e1 ⟨p, _, rfl, rfl, u14C_set (hlt hs (by decide)) (by decide) (by decide) (by decide) hc, fun j _ => rfl⟩)
    | 8, hd =>
      have e1 := veval_of (hvl 7 _ rfl (hdp 7 (by decide)))
      have n9 : listed.getD 9 false = false := by
        cases e : listed.getD 9 false with
        | false => rfl
        | true => rw [hdn 9 e 8 (by decide)] at hno; cases hno
      have n10 : listed.getD 10 false = false := by
        cases e : listed.getD 10 false with
        | false => rfl
        | true => rw [hdn 10 e 9 (by decide)] at n9; cases n9
      have hw := hc.1 hno
      subst hw
      refine wpOp_of _ rfl rfl (v_call 27 _ _ rfl _ Try.func27 (by kernel_rfl) (by kernel_rfl) #[.pointer (some ⟨gS, 5, none⟩)] (by simp [e1]) (hC.mono ?_))
      rintro e w2 ⟨g, rfl, hr⟩
      refine ⟨_, rfl, { p with gN := g }, _, rfl, rfl, ?_, fun j hj => ?_⟩
      · have hsz := hlt (i := 8) hs (by decide)
        unfold u14C
        rw [got_set hsz, got_set hsz, got_set hsz, if_pos rfl, if_neg (by decide), if_neg (by decide)]
        exact ⟨(fun h => by cases h), fun _ _ => hr, (fun h => by rw [n9] at h; cases h), (fun h => by rw [n10] at h; cases h)⟩
      · have hne : j ≠ 8 := fun e => by rw [e, hno] at hj; cases hj
        match j, hne with
        | 0, _ => rfl
        | 1, _ => rfl
        | 2, _ => rfl
        | 3, _ => rfl
        | 4, _ => rfl
        | 5, _ => rfl
        | 6, _ => rfl
        | 7, _ => rfl
        | 8, hne => exact absurd rfl hne
        | 9, _ => rfl
        | 10, _ => rfl
        | 11, _ => rfl
        | 12, _ => rfl
        | j + 13, _ => rfl
    | 9, hd =>
      have e1 := hvl 8 _ rfl (hdp 8 (by decide))
      have n10 : listed.getD 10 false = false := by
        cases e : listed.getD 10 false with
        | false => rfl
        | true => rw [hdn 10 e 9 (by decide)] at hno; cases hno
      have r1 := hc.2.1 (hdp 8 (by decide)) hno
      refine wpOp_of _ rfl rfl (v_build49 83 _ _ rfl e1 ⟨{ p with gb := w'.heap.size }, _, rfl, rfl, ?_, fun j hj => ?_⟩)
      · have hsz := hlt (i := 9) hs (by decide)
        unfold u14C
        rw [got_set hsz, got_set hsz, got_set hsz, if_neg (by decide), if_pos rfl, if_neg (by decide)]
        exact ⟨(fun h => by rw [hdp 8 (by decide)] at h; cases h), (fun _ h => by cases h), fun _ _ => ⟨w', r1, rfl, rfl⟩, (fun h => by rw [n10] at h; cases h)⟩
      · have hne : j ≠ 9 := fun e => by rw [e, hno] at hj; cases hj
        match j, hne with
        | 0, _ => rfl
        | 1, _ => rfl
        | 2, _ => rfl
        | 3, _ => rfl
        | 4, _ => rfl
        | 5, _ => rfl
        | 6, _ => rfl
        | 7, _ => rfl
        | 8, _ => rfl
        | 9, hne => exact absurd rfl hne
        | 10, _ => rfl
        | 11, _ => rfl
        | 12, _ => rfl
        | j + 13, _ => rfl
    | 10, hd =>
      have e1 := veval_of (hvl 4 _ rfl (hdp 4 (by decide)))
      have e2 := veval_of (hvl 9 _ rfl (hdp 9 (by decide)))
      obtain ⟨w1, r1, hgb, rfl⟩ := hc.2.2.1 (hdp 9 (by decide)) hno
      obtain ⟨vb, vm, vc, w2, hrun, r2⟩ := hP _ _ r1
      rw [← hgb] at hrun
      refine wpOp_of _ rfl rfl (v_append (.tmp 79) (.tmp 84) 49 rfl _ _ _ _ e1 e2 hrun ⟨{ p with va := vb, vm := vm, vc := vc }, _, rfl, rfl, ?_, fun j hj => ?_⟩)
      · have hsz := hlt (i := 10) hs (by decide)
        unfold u14C
        rw [got_set hsz, got_set hsz, got_set hsz, if_neg (by decide), if_neg (by decide), if_pos rfl]
        exact ⟨(fun h => by rw [hdn 9 (hdp 9 (by decide)) 8 (by decide)] at h; cases h), (fun _ h => by rw [hdp 9 (by decide)] at h; cases h), (fun _ h => by cases h), fun _ => r2⟩
      · have hne : j ≠ 10 := fun e => by rw [e, hno] at hj; cases hj
        match j, hne with
        | 0, _ => rfl
        | 1, _ => rfl
        | 2, _ => rfl
        | 3, _ => rfl
        | 4, _ => rfl
        | 5, _ => rfl
        | 6, _ => rfl
        | 7, _ => rfl
        | 8, _ => rfl
        | 9, _ => rfl
        | 10, hne => exact absurd rfl hne
        | 11, _ => rfl
        | 12, _ => rfl
        | j + 13, _ => rfl
    | 11, hd =>
      have e1 := veval_of (hvl 0 _ rfl (hdp 0 (by decide)))
      exact wpOp_of _ rfl rfl (v_nil (.tmp 75) _ rfl e1 ⟨p, _, rfl, rfl, u14C_set (hlt hs (by decide)) (by decide) (by decide) (by decide) hc, fun j _ => rfl⟩)
    | 12, hd =>
      have e1 := veval_of (hvl 11 _ rfl (hdp 11 (by decide)))
      exact wpOp_of _ rfl rfl (v_f52 (.tmp 86) 4 _ 7 rfl (by decide) e1 ⟨p, _, rfl, rfl, u14C_set (hlt hs (by decide)) (by decide) (by decide) (by decide) hc, fun j _ => rfl⟩)
    | i + 13, hd => simp at hd
  · intro listed p W hall hc
    have hr := hc.2.2.2 (hall 10 (by decide))
    obtain ⟨⟨u, g2⟩, g3, g4⟩ := hend p W hr
    have hnd : ((u14L gS N fb av p).map Prod.fst).Nodup := by
      rw [show (u14L gS N fb av p).map Prod.fst = [75, 76, 77, 78, 79, 80, 81, 82, 83, 84, 85, 86, 87] from rfl]; decide
    have hs2 : ∀ x ∈ u14L gS N fb av p, x.1 < a0.tmps.size := by
      intro x hx
      have hx1 : x.1 ∈ (u14L gS N fb av p).map Prod.fst := List.mem_map_of_mem hx
      rw [show (u14L gS N fb av p).map Prod.fst = [75, 76, 77, 78, 79, 80, 81, 82, 83, 84, 85, 86, 87] from rfl] at hx1
      rw [hz0]
      have : ∀ y ∈ [75, 76, 77, 78, 79, 80, 81, 82, 83, 84, 85, 86, 87], y < 142 := by decide
      exact this _ hx1
    have k1 : (lay a0 (u14L gS N fb av p)).tmps[87]? = some (.pointer (some ⟨gS, 7, none⟩)) := lay_at _ a0 hnd hs2 (87, .pointer (some ⟨gS, 7, none⟩)) (List.mem_of_getElem? (i := 12) rfl)
    have k2 : (lay a0 (u14L gS N fb av p)).tmps[85]? = some (.slice p.va p.vm p.vc) := lay_at _ a0 hnd hs2 (85, .slice p.va p.vm p.vc) (List.mem_of_getElem? (i := 10) rfl)
    generalize lay a0 (u14L gS N fb av p) = A at *
    show wpOps Try.prog u14 Q [13] A W
    rw [wpOps_cons]
    exact wpOp_of _ rfl rfl (v_store49 (.tmp 87) (.tmp 85) _ _ _ _ _ u rfl rfl (veval_of k1) (veval_of k2) g2 g3 g4)
def u9 : Array Oper := #[{ dst := some 45, op := Go.Op.move (Go.Operand.tmp 5), type := 41, pos := "system.go:69", after := #[], guard := none }, { dst := some 46, op := Go.Op.move (Go.Operand.tmp 5), type := 41, pos := "system.go:69", after := #[], guard := none }, { dst := some 47, op := Go.Op.nilCheck (Go.Operand.tmp 46), type := 0, pos := "system.go:69", after := #[{ on := 1, ground := Go.Ground.data }], guard := none }, { dst := some 48, op := Go.Op.fieldAddr 52 (Go.Operand.tmp 47) 4, type := 0, pos := "system.go:69", after := #[{ on := 2, ground := Go.Ground.data }], guard := none }, { dst := some 49, op := Go.Op.load 49 (Go.Operand.tmp 48), type := 49, pos := "system.go:69", after := #[{ on := 3, ground := Go.Ground.data }], guard := none }, { dst := some 50, op := Go.Op.move (Go.Operand.tmp 5), type := 41, pos := "system.go:69", after := #[], guard := none }, { dst := some 51, op := Go.Op.nilCheck (Go.Operand.tmp 50), type := 0, pos := "system.go:69", after := #[{ on := 5, ground := Go.Ground.data }], guard := none }, { dst := some 52, op := Go.Op.fieldAddr 52 (Go.Operand.tmp 51) 1, type := 0, pos := "system.go:69", after := #[{ on := 6, ground := Go.Ground.data }], guard := none }, { dst := some 53, op := Go.Op.load 48 (Go.Operand.tmp 52), type := 48, pos := "system.go:69", after := #[{ on := 7, ground := Go.Ground.data }], guard := none }, { dst := some 54, op := Go.Op.buildSlice 49 1 #[(0, Go.Operand.tmp 53)], type := 49, pos := "system.go:69", after := #[{ on := 8, ground := Go.Ground.data }], guard := none }, { dst := some 55, op := Go.Op.call { callee := Go.Callee.builtin Go.Builtin.append, args := #[Go.Operand.tmp 49, Go.Operand.tmp 54], argTypes := #[49, 49] }, type := 49, pos := "system.go:69", after := #[{ on := 4, ground := Go.Ground.data }, { on := 9, ground := Go.Ground.data }], guard := none }, { dst := some 56, op := Go.Op.nilCheck (Go.Operand.tmp 45), type := 0, pos := "system.go:69", after := #[{ on := 0, ground := Go.Ground.data }, { on := 0, ground := Go.Ground.phase }, { on := 1, ground := Go.Ground.phase }, { on := 2, ground := Go.Ground.phase }, { on := 3, ground := Go.Ground.phase }, { on := 4, ground := Go.Ground.phase }, { on := 5, ground := Go.Ground.phase }, { on := 6, ground := Go.Ground.phase }, { on := 7, ground := Go.Ground.phase }, { on := 8, ground := Go.Ground.phase }, { on := 9, ground := Go.Ground.phase }, { on := 10, ground := Go.Ground.phase }], guard := none }, { dst := some 57, op := Go.Op.fieldAddr 52 (Go.Operand.tmp 56) 4, type := 0, pos := "system.go:69", after := #[{ on := 11, ground := Go.Ground.data }, { on := 0, ground := Go.Ground.phase }, { on := 1, ground := Go.Ground.phase }, { on := 2, ground := Go.Ground.phase }, { on := 3, ground := Go.Ground.phase }, { on := 4, ground := Go.Ground.phase }, { on := 5, ground := Go.Ground.phase }, { on := 6, ground := Go.Ground.phase }, { on := 7, ground := Go.Ground.phase }, { on := 8, ground := Go.Ground.phase }, { on := 9, ground := Go.Ground.phase }, { on := 10, ground := Go.Ground.phase }], guard := none }, { dst := none, op := Go.Op.store 49 (Go.Operand.tmp 57) (Go.Operand.tmp 55), type := 0, pos := "system.go:69", after := #[{ on := 12, ground := Go.Ground.data }, { on := 10, ground := Go.Ground.data }, { on := 10, ground := Go.Ground.chain }, { on := 0, ground := Go.Ground.phase }, { on := 1, ground := Go.Ground.phase }, { on := 2, ground := Go.Ground.phase }, { on := 3, ground := Go.Ground.phase }, { on := 4, ground := Go.Ground.phase }, { on := 5, ground := Go.Ground.phase }, { on := 6, ground := Go.Ground.phase }, { on := 7, ground := Go.Ground.phase }, { on := 8, ground := Go.Ground.phase }, { on := 9, ground := Go.Ground.phase }, { on := 10, ground := Go.Ground.phase }], guard := none }]
def u9L (gS gC N fb : Nat) (av : Value) (p : Gp) : List (Nat × Value) := [(45, .pointer (some ⟨gS, 0, none⟩)), (46, .pointer (some ⟨gS, 0, none⟩)), (47, .pointer (some ⟨gS, 0, none⟩)), (48, .pointer (some ⟨gS, 7, none⟩)), (49, av), (50, .pointer (some ⟨gS, 0, none⟩)), (51, .pointer (some ⟨gS, 0, none⟩)), (52, .pointer (some ⟨gS, 1, none⟩)), (53, .agg #[.slice (some ⟨gC, 0, none⟩) N N, .int .i64 ((fb : Nat) : Int)]), (54, .slice (some ⟨p.gb, 0, none⟩) 1 1), (55, .slice p.va p.vm p.vc), (56, .pointer (some ⟨gS, 0, none⟩)), (57, .pointer (some ⟨gS, 7, none⟩))]
theorem u9_chk : chk u9 13 = true := by kernel_rfl
def u9C (w0 : World) (gC N fb : Nat) (RC : Value → World → Prop) (listed : Array Bool) (p : Gp) (w : World) : Prop :=
  (listed.getD 9 false = false → w = w0.drew) ∧ (listed.getD 9 false = true → listed.getD 10 false = false → p.gb = w0.drew.heap.size ∧ w = w0.drew.alloc (.cells #[.slice (some ⟨gC, 0, none⟩) N N, .int .i64 ((fb : Nat) : Int)] 48)) ∧ (listed.getD 10 false = true → RC (.slice p.va p.vm p.vc) w)
theorem u9C_set {w0 : World} {gC N fb : Nat} {RC : Value → World → Prop} {listed : Array Bool} {p : Gp} {w : World} {i : Nat} (hi : i < listed.size) (h9 : i ≠ 9) (h10 : i ≠ 10) (h : u9C w0 gC N fb RC listed p w) : u9C w0 gC N fb RC (listed.setIfInBounds i true) p w := by
  unfold u9C at *
  rw [got_set hi, got_set hi, if_neg h9, if_neg h10]
  exact h
set_option maxRecDepth 4000 in
set_option maxHeartbeats 4000000 in
theorem u9_c {Q : Exit → Act → World → Prop} {a0 : Act} {w : World} (gS gC N fb : Nat) (av : Value) (hz0 : a0.tmps.size = 142)
    (h5 : a0.tmps[5]? = some (.pointer (some ⟨gS, 0, none⟩)))
    (RC : Value → World → Prop) (hc0 : w.drew.cell? ⟨gS, 7, none⟩ = some av) (hc1 : w.drew.cell? ⟨gS, 1, none⟩ = some (.slice (some ⟨gC, 0, none⟩) N N)) (hc2 : w.drew.cell? ⟨gS, 2, none⟩ = some (.int .i64 ((fb : Nat) : Int))) (hcA : (w.drew.alloc (.cells #[.slice (some ⟨gC, 0, none⟩) N N, .int .i64 ((fb : Nat) : Int)] 48)).cell? ⟨gS, 7, none⟩ = some av)
    (hP : ∃ b m c w2, (Builtin.append_ #[49, 49] 49 #[av, .slice (some ⟨w.drew.heap.size, 0, none⟩) 1 1]).run Try.prog (w.drew.alloc (.cells #[.slice (some ⟨gC, 0, none⟩) N N, .int .i64 ((fb : Nat) : Int)] 48)) = .ok (.slice b m c) w2 ∧ RC (.slice b m c) w2)
    (hend : ∀ p W, RC (.slice p.va p.vm p.vc) W → (∃ u, W.cell? ⟨gS, 7, none⟩ = some u) ∧ W.frozen? ⟨gS, 7, none⟩ = false ∧ Q .normal (lay a0 (u9L gS gC N fb av p)) (W.setCell ⟨gS, 7, none⟩ (.slice p.va p.vm p.vc))) :
    (Code.region 9 u9 true).wp Try.prog Q a0 w := by
  have o5 : ∀ a : Act, (∀ t, t ∉ [45, 46, 47, 48, 49, 50, 51, 52, 53, 54, 55, 56, 57] → a.tmps[t]? = a0.tmps[t]?) → a.eval (.tmp 5) = .pointer (some ⟨gS, 0, none⟩) := fun a hot => veval_of ((hot 5 (by decide)).trans h5)
  have hlt : ∀ {i : Nat} {l : Array Bool}, l.size = u9.size → i < 13 → i < l.size := fun h h' => by
    rw [h]; exact Nat.lt_of_lt_of_le h' (by decide)
  refine wp_region_gh (by rfl) 13 [45, 46, 47, 48, 49, 50, 51, 52, 53, 54, 55, 56, 57] (u9L gS gC N fb av) (fun _ => rfl) rfl (by decide) u9_chk (by decide) (by
    intro d hd
    rw [hz0]
    have : ∀ y ∈ [45, 46, 47, 48, 49, 50, 51, 52, 53, 54, 55, 56, 57], y < 142 := by decide
    exact this _ hd) (u9C w gC N fb RC) ⟨⟨0, 0, none, 0, 0⟩, ?_⟩ ?_ ?_
  · refine ⟨fun _ => rfl, fun h => absurd h (by decide), fun h => absurd h (by decide)⟩
  · intro i d hd listed p a w' hs hdn hno hdp hc hot hvl
    match i, hd with
    | 0, hd =>
      have e1 := o5 a hot
      exact wpOp_of _ rfl rfl (v_move (.tmp 5) _ rfl e1 ⟨p, _, rfl, rfl, u9C_set (hlt hs (by decide)) (by decide) (by decide) hc, fun j _ => rfl⟩)
    | 1, hd =>
      have e1 := o5 a hot
      exact wpOp_of _ rfl rfl (v_move (.tmp 5) _ rfl e1 ⟨p, _, rfl, rfl, u9C_set (hlt hs (by decide)) (by decide) (by decide) hc, fun j _ => rfl⟩)
    | 2, hd =>
      have e1 := veval_of (hvl 1 _ rfl (hdp 1 (by decide)))
      exact wpOp_of _ rfl rfl (v_nil (.tmp 46) _ rfl e1 ⟨p, _, rfl, rfl, u9C_set (hlt hs (by decide)) (by decide) (by decide) hc, fun j _ => rfl⟩)
    | 3, hd =>
      have e1 := veval_of (hvl 2 _ rfl (hdp 2 (by decide)))
      exact wpOp_of _ rfl rfl (v_f52 (.tmp 47) 4 _ 7 rfl (by decide) e1 ⟨p, _, rfl, rfl, u9C_set (hlt hs (by decide)) (by decide) (by decide) hc, fun j _ => rfl⟩)
    | 4, hd =>
      have e1 := veval_of (hvl 3 _ rfl (hdp 3 (by decide)))
      have n10 : listed.getD 10 false = false := by
        cases e : listed.getD 10 false with
        | false => rfl
        | true => rw [hdn 10 e 4 (by decide)] at hno; cases hno
      have hcell : w'.cell? ⟨gS, 7, none⟩ = some av := by
        cases e9 : listed.getD 9 false with
        | false => rw [hc.1 e9]; exact hc0
        | true =>
          obtain ⟨-, rfl⟩ := hc.2.1 e9 n10
          exact hcA
      exact wpOp_of _ rfl rfl (v_load49 (.tmp 48) _ _ _ rfl e1 hcell ⟨p, _, rfl, rfl, u9C_set (hlt hs (by decide)) (by decide) (by decide) hc, fun j _ => rfl⟩)
    | 5, hd =>
      have e1 := o5 a hot
      exact wpOp_of _ rfl rfl (v_move (.tmp 5) _ rfl e1 ⟨p, _, rfl, rfl, u9C_set (hlt hs (by decide)) (by decide) (by decide) hc, fun j _ => rfl⟩)
    | 6, hd =>
      have e1 := veval_of (hvl 5 _ rfl (hdp 5 (by decide)))
      exact wpOp_of _ rfl rfl (v_nil (.tmp 50) _ rfl e1 ⟨p, _, rfl, rfl, u9C_set (hlt hs (by decide)) (by decide) (by decide) hc, fun j _ => rfl⟩)
    | 7, hd =>
      have e1 := veval_of (hvl 6 _ rfl (hdp 6 (by decide)))
      exact wpOp_of _ rfl rfl (v_f52 (.tmp 51) 1 _ 1 rfl (by decide) e1 ⟨p, _, rfl, rfl, u9C_set (hlt hs (by decide)) (by decide) (by decide) hc, fun j _ => rfl⟩)
    | 8, hd =>
      have e1 := veval_of (hvl 7 _ rfl (hdp 7 (by decide)))
      have n9 : listed.getD 9 false = false := by
        cases e : listed.getD 9 false with
        | false => rfl
        | true => rw [hdn 9 e 8 (by decide)] at hno; cases hno
      have hw := hc.1 n9
      subst hw
      exact wpOp_of _ rfl rfl (v_load48 (.tmp 52) _ _ _ _ rfl e1 hc1 hc2 ⟨p, _, rfl, rfl, u9C_set (hlt hs (by decide)) (by decide) (by decide) hc, fun j _ => rfl⟩)
    | 9, hd =>
      have e1 := hvl 8 _ rfl (hdp 8 (by decide))
      have n10 : listed.getD 10 false = false := by
        cases e : listed.getD 10 false with
        | false => rfl
        | true => rw [hdn 10 e 9 (by decide)] at hno; cases hno
      have hw := hc.1 hno
      subst hw
      refine wpOp_of _ rfl rfl (v_build49 53 _ _ rfl e1 ⟨{ p with gb := w.drew.heap.size }, _, rfl, rfl, ?_, fun j hj => ?_⟩)
      · have hsz := hlt (i := 9) hs (by decide)
        unfold u9C
        rw [got_set hsz, got_set hsz, if_pos rfl, if_neg (by decide)]
        exact ⟨(fun h => by cases h), fun _ _ => ⟨rfl, rfl⟩, (fun h => by rw [n10] at h; cases h)⟩
      · have hne : j ≠ 9 := fun e => by rw [e, hno] at hj; cases hj
        match j, hne with
        | 0, _ => rfl
        | 1, _ => rfl
        | 2, _ => rfl
        | 3, _ => rfl
        | 4, _ => rfl
        | 5, _ => rfl
        | 6, _ => rfl
        | 7, _ => rfl
        | 8, _ => rfl
        | 9, hne => exact absurd rfl hne
        | 10, _ => rfl
        | 11, _ => rfl
        | 12, _ => rfl
        | j + 13, _ => rfl
    | 10, hd =>
      have e1 := veval_of (hvl 4 _ rfl (hdp 4 (by decide)))
      have e2 := veval_of (hvl 9 _ rfl (hdp 9 (by decide)))
      obtain ⟨hgb, rfl⟩ := hc.2.1 (hdp 9 (by decide)) hno
      obtain ⟨vb, vm, vc, w2, hrun, r2⟩ := hP
      rw [← hgb] at hrun
      refine wpOp_of _ rfl rfl (v_append (.tmp 49) (.tmp 54) 49 rfl _ _ _ _ e1 e2 hrun ⟨{ p with va := vb, vm := vm, vc := vc }, _, rfl, rfl, ?_, fun j hj => ?_⟩)
      · have hsz := hlt (i := 10) hs (by decide)
        unfold u9C
        rw [got_set hsz, got_set hsz, if_neg (by decide), if_pos rfl]
        exact ⟨(fun h => by rw [hdp 9 (by decide)] at h; cases h), (fun _ h => by cases h), fun _ => r2⟩
      · have hne : j ≠ 10 := fun e => by rw [e, hno] at hj; cases hj
        match j, hne with
        | 0, _ => rfl
        | 1, _ => rfl
        | 2, _ => rfl
        | 3, _ => rfl
        | 4, _ => rfl
        | 5, _ => rfl
        | 6, _ => rfl
        | 7, _ => rfl
        | 8, _ => rfl
        | 9, _ => rfl
        | 10, hne => exact absurd rfl hne
        | 11, _ => rfl
        | 12, _ => rfl
        | j + 13, _ => rfl
    | 11, hd =>
      have e1 := veval_of (hvl 0 _ rfl (hdp 0 (by decide)))
      exact wpOp_of _ rfl rfl (v_nil (.tmp 45) _ rfl e1 ⟨p, _, rfl, rfl, u9C_set (hlt hs (by decide)) (by decide) (by decide) hc, fun j _ => rfl⟩)
    | 12, hd =>
      have e1 := veval_of (hvl 11 _ rfl (hdp 11 (by decide)))
      exact wpOp_of _ rfl rfl (v_f52 (.tmp 56) 4 _ 7 rfl (by decide) e1 ⟨p, _, rfl, rfl, u9C_set (hlt hs (by decide)) (by decide) (by decide) hc, fun j _ => rfl⟩)
    | i + 13, hd => simp at hd
  · intro listed p W hall hc
    have hr := hc.2.2 (hall 10 (by decide))
    obtain ⟨⟨u, g2⟩, g3, g4⟩ := hend p W hr
    have hnd : ((u9L gS gC N fb av p).map Prod.fst).Nodup := by
      rw [show (u9L gS gC N fb av p).map Prod.fst = [45, 46, 47, 48, 49, 50, 51, 52, 53, 54, 55, 56, 57] from rfl]; decide
    have hs2 : ∀ x ∈ u9L gS gC N fb av p, x.1 < a0.tmps.size := by
      intro x hx
      have hx1 : x.1 ∈ (u9L gS gC N fb av p).map Prod.fst := List.mem_map_of_mem hx
      rw [show (u9L gS gC N fb av p).map Prod.fst = [45, 46, 47, 48, 49, 50, 51, 52, 53, 54, 55, 56, 57] from rfl] at hx1
      rw [hz0]
      have : ∀ y ∈ [45, 46, 47, 48, 49, 50, 51, 52, 53, 54, 55, 56, 57], y < 142 := by decide
      exact this _ hx1
    have k1 : (lay a0 (u9L gS gC N fb av p)).tmps[57]? = some (.pointer (some ⟨gS, 7, none⟩)) := lay_at _ a0 hnd hs2 (57, .pointer (some ⟨gS, 7, none⟩)) (List.mem_of_getElem? (i := 12) rfl)
    have k2 : (lay a0 (u9L gS gC N fb av p)).tmps[55]? = some (.slice p.va p.vm p.vc) := lay_at _ a0 hnd hs2 (55, .slice p.va p.vm p.vc) (List.mem_of_getElem? (i := 10) rfl)
    generalize lay a0 (u9L gS gC N fb av p) = A at *
    show wpOps Try.prog u9 Q [13] A W
    rw [wpOps_cons]
    exact wpOp_of _ rfl rfl (v_store49 (.tmp 57) (.tmp 55) _ _ _ _ _ u rfl rfl (veval_of k1) (veval_of k2) g2 g3 g4)
end Go.Proofs.Qxb6500772a
