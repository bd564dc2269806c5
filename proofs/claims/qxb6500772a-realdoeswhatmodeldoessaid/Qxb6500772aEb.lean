/- Branch's last region: it merges the fault flags. -/
import Derived.Test.Qxb6500772aVg
import Derived.Test.Qxb6500772aEa
import Derived.Test.Qxb6500772aMg
namespace Go.Proofs.Qxb6500772a
open Go Go.RowKit Go.Qm
set_option linter.unusedVariables false
set_option linter.unusedSimpArgs false
section
variable {o : Oper} {a : Act} {w : World} {K : Act → World → Prop} {Q : Exit → Act → World → Prop}
theorem v_f48b (x : Operand) (g o' : Nat) (ho : o.op = .fieldAddr 48 x 1) (hx : a.eval x = .pointer (some ⟨g, o', none⟩)) (h : K (a.put o.dst (.pointer (some ⟨g, o' + 1, none⟩))) w) : o.wp Try.prog a w K Q := by
  unfold Oper.wp execOp
  simp only [ho, hx]
  simp [go_sem]
  exact h
theorem v_build96 (t : Nat) (n : Int) (ho : o.op = .buildSlice 96 1 #[(0, .tmp t)]) (hx : a.tmps[t]? = some (.int .i64 n)) (h : K (a.put o.dst (.slice (some ⟨w.heap.size, 0, none⟩) 1 1)) (w.alloc (.cells #[.int .i64 n] 46))) : o.wp Try.prog a w K Q := by
  unfold Oper.wp execOp
  simp only [ho]
  simp [go_sem, hx]
  exact h
theorem v_store46 (x y : Operand) (g k : Nat) (v : Int) (u : Value) (ho : o.op = .store 46 x y) (hd : o.dst = none) (hx : a.eval x = .pointer (some ⟨g, k, none⟩)) (hy : a.eval y = .int .i64 v) (hc : w.cell? ⟨g, k, none⟩ = some u) (hz : w.frozen? ⟨g, k, none⟩ = false) (h : K a (w.setCell ⟨g, k, none⟩ (.int .i64 v))) : o.wp Try.prog a w K Q := by
  unfold Oper.wp execOp
  simp only [ho, hx, hy]
  simp [go_sem, hc, hz, hd, Act.put]
  exact h
end
structure Gh where
  ga : Nat
  gb : Nat
  rb : Nat
  ro : Nat
  rc : Nat
  bit : Nat
def b10 : Array Oper := #[{ dst := some 58, op := Op.move (Operand.tmp 2), type := 91, pos := "exec.go:183", after := #[], guard := none }, { dst := some 59, op := Op.move (Operand.tmp 0), type := 85, pos := "exec.go:183", after := #[], guard := none }, { dst := some 60, op := Op.move (Operand.tmp 6), type := 96, pos := "exec.go:183", after := #[], guard := none }, { dst := some 61, op := Op.indexAddr 96 (Operand.tmp 60) (Operand.const (Value.int IntKind.i64 0)), type := 0, pos := "exec.go:183", after := #[{ on := 2, ground := Ground.data }], guard := none }, { dst := some 62, op := Op.load 46 (Operand.tmp 61), type := 46, pos := "exec.go:183", after := #[{ on := 3, ground := Ground.data }], guard := none }, { dst := some 63, op := Op.move (Operand.tmp 2), type := 91, pos := "exec.go:183", after := #[], guard := none }, { dst := some 64, op := Op.nilCheck (Operand.tmp 63), type := 0, pos := "exec.go:183", after := #[{ on := 5, ground := Ground.data }], guard := none }, { dst := some 65, op := Op.fieldAddr 48 (Operand.tmp 64) 1, type := 0, pos := "exec.go:183", after := #[{ on := 6, ground := Ground.data }], guard := none }, { dst := some 66, op := Op.load 46 (Operand.tmp 65), type := 46, pos := "exec.go:183", after := #[{ on := 7, ground := Ground.data }], guard := none }, { dst := some 67, op := Op.buildSlice 96 1 #[(0, Operand.tmp 66)], type := 96, pos := "exec.go:183", after := #[{ on := 8, ground := Ground.data }], guard := none }, { dst := some 68, op := Op.fieldAddr 48 (Operand.tmp 7) 1, type := 0, pos := "exec.go:183", after := #[], guard := none }, { dst := some 69, op := Op.load 46 (Operand.tmp 68), type := 46, pos := "exec.go:183", after := #[{ on := 10, ground := Ground.data }], guard := none }, { dst := some 70, op := Op.buildSlice 96 1 #[(0, Operand.tmp 69)], type := 96, pos := "exec.go:183", after := #[{ on := 11, ground := Ground.data }], guard := none }, { dst := some 71, op := Op.call { callee := Callee.value (Operand.func 77), args := #[Operand.tmp 59, Operand.tmp 62, Operand.tmp 67, Operand.tmp 70], argTypes := #[85, 46, 96, 96] }, type := 96, pos := "exec.go:183", after := #[{ on := 1, ground := Ground.data }, { on := 4, ground := Ground.data }, { on := 9, ground := Ground.data }, { on := 12, ground := Ground.data }], guard := none }, { dst := some 72, op := Op.indexAddr 96 (Operand.tmp 71) (Operand.const (Value.int IntKind.i64 0)), type := 0, pos := "exec.go:183", after := #[{ on := 13, ground := Ground.data }], guard := none }, { dst := some 73, op := Op.load 46 (Operand.tmp 72), type := 46, pos := "exec.go:183", after := #[{ on := 14, ground := Ground.data }], guard := none }, { dst := some 74, op := Op.nilCheck (Operand.tmp 58), type := 0, pos := "exec.go:183", after := #[{ on := 0, ground := Ground.data }, { on := 0, ground := Ground.phase }, { on := 1, ground := Ground.phase }, { on := 2, ground := Ground.phase }, { on := 3, ground := Ground.phase }, { on := 4, ground := Ground.phase }, { on := 5, ground := Ground.phase }, { on := 6, ground := Ground.phase }, { on := 7, ground := Ground.phase }, { on := 8, ground := Ground.phase }, { on := 9, ground := Ground.phase }, { on := 10, ground := Ground.phase }, { on := 11, ground := Ground.phase }, { on := 12, ground := Ground.phase }, { on := 13, ground := Ground.phase }, { on := 14, ground := Ground.phase }, { on := 15, ground := Ground.phase }], guard := none }, { dst := some 75, op := Op.fieldAddr 48 (Operand.tmp 74) 1, type := 0, pos := "exec.go:183", after := #[{ on := 16, ground := Ground.data }, { on := 0, ground := Ground.phase }, { on := 1, ground := Ground.phase }, { on := 2, ground := Ground.phase }, { on := 3, ground := Ground.phase }, { on := 4, ground := Ground.phase }, { on := 5, ground := Ground.phase }, { on := 6, ground := Ground.phase }, { on := 7, ground := Ground.phase }, { on := 8, ground := Ground.phase }, { on := 9, ground := Ground.phase }, { on := 10, ground := Ground.phase }, { on := 11, ground := Ground.phase }, { on := 12, ground := Ground.phase }, { on := 13, ground := Ground.phase }, { on := 14, ground := Ground.phase }, { on := 15, ground := Ground.phase }], guard := none }, { dst := none, op := Op.store 46 (Operand.tmp 75) (Operand.tmp 73), type := 0, pos := "exec.go:183", after := #[{ on := 17, ground := Ground.data }, { on := 15, ground := Ground.data }, { on := 13, ground := Ground.chain }, { on := 0, ground := Ground.phase }, { on := 1, ground := Ground.phase }, { on := 2, ground := Ground.phase }, { on := 3, ground := Ground.phase }, { on := 4, ground := Ground.phase }, { on := 5, ground := Ground.phase }, { on := 6, ground := Ground.phase }, { on := 7, ground := Ground.phase }, { on := 8, ground := Ground.phase }, { on := 9, ground := Ground.phase }, { on := 10, ground := Ground.phase }, { on := 11, ground := Ground.phase }, { on := 12, ground := Ground.phase }, { on := 13, ground := Ground.phase }, { on := 14, ground := Ground.phase }, { on := 15, ground := Ground.phase }], guard := none }]
def b10L (gB gF oF gO cb co cc pc fT fE : Nat) (p : Gh) : List (Nat × Value) := [(58, .pointer (some ⟨gF, oF, none⟩)), (59, .pointer (some ⟨gB, 0, none⟩)), (60, .slice (some ⟨cb, co, none⟩) 1 cc), (61, .pointer (some ⟨cb, co + 0, none⟩)), (62, .int .i64 ((pc : Nat) : Int)), (63, .pointer (some ⟨gF, oF, none⟩)), (64, .pointer (some ⟨gF, oF, none⟩)), (65, .pointer (some ⟨gF, oF + 1, none⟩)), (66, .int .i64 ((fT : Nat) : Int)), (67, .slice (some ⟨p.ga, 0, none⟩) 1 1), (68, .pointer (some ⟨gO, 0 + 1, none⟩)), (69, .int .i64 ((fE : Nat) : Int)), (70, .slice (some ⟨p.gb, 0, none⟩) 1 1), (71, .slice (some ⟨p.rb, p.ro, none⟩) 1 p.rc), (72, .pointer (some ⟨p.rb, p.ro + 0, none⟩)), (73, .int .i64 ((p.bit : Nat) : Int)), (74, .pointer (some ⟨gF, oF, none⟩)), (75, .pointer (some ⟨gF, oF + 1, none⟩))]
theorem b10_chk : chk b10 18 = true := by kernel_rfl
/-- What has come up, and what is known of the world. -/
def b10C (w0 : World) (fT fE : Nat) (R : Nat → Nat → Nat → Nat → World → Prop) (listed : Array Bool) (p : Gh) (w : World) : Prop :=
  (listed.getD 13 false = false → Keep w0.drew w ∧ (listed.getD 9 false = true → Arr w p.ga 46 [.int .i64 ((fT : Nat) : Int)] ∧ w0.heap.size ≤ p.ga) ∧ (listed.getD 12 false = true → Arr w p.gb 46 [.int .i64 ((fE : Nat) : Int)] ∧ w0.heap.size ≤ p.gb)) ∧ (listed.getD 13 false = true → R p.rb p.ro p.rc p.bit w)
theorem b10C_set {w0 : World} {fT fE : Nat} {R : Nat → Nat → Nat → Nat → World → Prop} {listed : Array Bool} {p : Gh} {w : World} {i : Nat} (hi : i < listed.size) (h9 : i ≠ 9) (h12 : i ≠ 12) (h13 : i ≠ 13) (h : b10C w0 fT fE R listed p w) : b10C w0 fT fE R (listed.setIfInBounds i true) p w := by
  unfold b10C at *
  rw [got_set hi, got_set hi, got_set hi, if_neg h9, if_neg h12, if_neg h13]
  exact h
set_option maxRecDepth 4000 in
set_option maxHeartbeats 4000000 in
theorem b10_c {Q : Exit → Act → World → Prop} {a0 : Act} {w : World} (gB gF oF gO cb co cc pc fT fE : Nat) (hz0 : a0.tmps.size = 76)
    (h2 : a0.tmps[2]? = some (.pointer (some ⟨gF, oF, none⟩))) (h0 : a0.tmps[0]? = some (.pointer (some ⟨gB, 0, none⟩))) (h6 : a0.tmps[6]? = some (.slice (some ⟨cb, co, none⟩) 1 cc)) (h7 : a0.tmps[7]? = some (.pointer (some ⟨gO, 0, none⟩)))
    (R : Nat → Nat → Nat → Nat → World → Prop) (hF : ∀ W, Keep w.drew W → W.cell? ⟨cb, co + 0, none⟩ = some (.int .i64 ((pc : Nat) : Int)) ∧ W.cell? ⟨gF, oF + 1, none⟩ = some (.int .i64 ((fT : Nat) : Int)) ∧ W.cell? ⟨gO, 0 + 1, none⟩ = some (.int .i64 ((fE : Nat) : Int))) (hG : ∀ a b c d W, R a b c d W → (W.cell? ⟨cb, co + 0, none⟩ = some (.int .i64 ((pc : Nat) : Int)) ∧ W.cell? ⟨gF, oF + 1, none⟩ = some (.int .i64 ((fT : Nat) : Int)) ∧ W.cell? ⟨gO, 0 + 1, none⟩ = some (.int .i64 ((fE : Nat) : Int))) ∧ W.cell? ⟨a, b + 0, none⟩ = some (.int .i64 ((d : Nat) : Int)))
    (hC : ∀ W ga gb, Keep w.drew W → Arr W ga 46 [.int .i64 ((fT : Nat) : Int)] → Arr W gb 46 [.int .i64 ((fE : Nat) : Int)] → w.heap.size ≤ ga → w.heap.size ≤ gb → Calls Try.prog 77 #[.pointer (some ⟨gB, 0, none⟩), .int .i64 ((pc : Nat) : Int), .slice (some ⟨ga, 0, none⟩) 1 1, .slice (some ⟨gb, 0, none⟩) 1 1] W fun e w' => ∃ rb ro rc bit, e = .returned (.slice (some ⟨rb, ro, none⟩) 1 rc) ∧ R rb ro rc bit w')
    (hend : ∀ p W, R p.rb p.ro p.rc p.bit W → W.frozen? ⟨gF, oF + 1, none⟩ = false ∧ Q .normal (lay a0 (b10L gB gF oF gO cb co cc pc fT fE p)) (W.setCell ⟨gF, oF + 1, none⟩ (.int .i64 ((p.bit : Nat) : Int)))) :
    (Code.region 10 b10 true).wp Try.prog Q a0 w := by
  have o2 : ∀ a : Act, (∀ t, t ∉ [58, 59, 60, 61, 62, 63, 64, 65, 66, 67, 68, 69, 70, 71, 72, 73, 74, 75] → a.tmps[t]? = a0.tmps[t]?) → a.eval (.tmp 2) = .pointer (some ⟨gF, oF, none⟩) := fun a hot => veval_of ((hot 2 (by decide)).trans h2)
  have o0 : ∀ a : Act, (∀ t, t ∉ [58, 59, 60, 61, 62, 63, 64, 65, 66, 67, 68, 69, 70, 71, 72, 73, 74, 75] → a.tmps[t]? = a0.tmps[t]?) → a.eval (.tmp 0) = .pointer (some ⟨gB, 0, none⟩) := fun a hot => veval_of ((hot 0 (by decide)).trans h0)
  have o6 : ∀ a : Act, (∀ t, t ∉ [58, 59, 60, 61, 62, 63, 64, 65, 66, 67, 68, 69, 70, 71, 72, 73, 74, 75] → a.tmps[t]? = a0.tmps[t]?) → a.eval (.tmp 6) = .slice (some ⟨cb, co, none⟩) 1 cc := fun a hot => veval_of ((hot 6 (by decide)).trans h6)
  have o7 : ∀ a : Act, (∀ t, t ∉ [58, 59, 60, 61, 62, 63, 64, 65, 66, 67, 68, 69, 70, 71, 72, 73, 74, 75] → a.tmps[t]? = a0.tmps[t]?) → a.eval (.tmp 7) = .pointer (some ⟨gO, 0, none⟩) := fun a hot => veval_of ((hot 7 (by decide)).trans h7)
  have hFC : ∀ listed p W, b10C w fT fE R listed p W → W.cell? ⟨cb, co + 0, none⟩ = some (.int .i64 ((pc : Nat) : Int)) ∧ W.cell? ⟨gF, oF + 1, none⟩ = some (.int .i64 ((fT : Nat) : Int)) ∧ W.cell? ⟨gO, 0 + 1, none⟩ = some (.int .i64 ((fE : Nat) : Int)) := fun listed p W h => by
    cases e : listed.getD 13 false with
    | false => exact hF W (h.1 e).1
    | true => exact (hG _ _ _ _ W (h.2 e)).1
  have hlt : ∀ {i : Nat} {l : Array Bool}, l.size = b10.size → i < 18 → i < l.size := fun h h' => by
    rw [h]; exact Nat.lt_of_lt_of_le h' (by decide)
  refine wp_region_gh (by rfl) 18 [58, 59, 60, 61, 62, 63, 64, 65, 66, 67, 68, 69, 70, 71, 72, 73, 74, 75] (b10L gB gF oF gO cb co cc pc fT fE) (fun _ => rfl) rfl (by decide) b10_chk (by decide) (by
    intro d hd
    rw [hz0]
    have : ∀ y ∈ [58, 59, 60, 61, 62, 63, 64, 65, 66, 67, 68, 69, 70, 71, 72, 73, 74, 75], y < 76 := by decide
    exact this _ hd) (b10C w fT fE R) ⟨⟨0, 0, 0, 0, 0, 0⟩, ?_⟩ ?_ ?_
  · refine ⟨fun _ => ⟨Keep.refl _, fun h => ?_, fun h => ?_⟩, fun h => ?_⟩
    · exact absurd h (by decide)
    · exact absurd h (by decide)
    · exact absurd h (by decide)
  · intro i d hd listed p a w' hs hdn hno hdp hc hot hvl
    match i, hd with
    | 0, hd =>
      have e1 := o2 a hot
      exact wpOp_of _ rfl rfl (v_move (.tmp 2) _ rfl e1 ⟨p, _, rfl, rfl, b10C_set (hlt hs (by decide)) (by decide) (by decide) (by decide) hc, fun j _ => rfl⟩)
    | 1, hd =>
      have e1 := o0 a hot
      exact wpOp_of _ rfl rfl (v_move (.tmp 0) _ rfl e1 ⟨p, _, rfl, rfl, b10C_set (hlt hs (by decide)) (by decide) (by decide) (by decide) hc, fun j _ => rfl⟩)
    | 2, hd =>
      have e1 := o6 a hot
      exact wpOp_of _ rfl rfl (v_move (.tmp 6) _ rfl e1 ⟨p, _, rfl, rfl, b10C_set (hlt hs (by decide)) (by decide) (by decide) (by decide) hc, fun j _ => rfl⟩)
    | 3, hd =>
      have e1 := veval_of (hvl 2 _ rfl (hdp 2 (by decide)))
      exact wpOp_of _ rfl rfl (v_index96 (.tmp 60) (.const (.int .i64 0)) _ _ _ _ 0 rfl e1 rfl (by decide) ⟨p, _, rfl, rfl, b10C_set (hlt hs (by decide)) (by decide) (by decide) (by decide) hc, fun j _ => rfl⟩)
    | 4, hd =>
      have e1 := veval_of (hvl 3 _ rfl (hdp 3 (by decide)))
      exact wpOp_of _ rfl rfl (v_load46 (.tmp 61) _ _ _ rfl e1 (hFC _ _ _ hc).1 ⟨p, _, rfl, rfl, b10C_set (hlt hs (by decide)) (by decide) (by decide) (by decide) hc, fun j _ => rfl⟩)
    | 5, hd =>
      have e1 := o2 a hot
      exact wpOp_of _ rfl rfl (v_move (.tmp 2) _ rfl e1 ⟨p, _, rfl, rfl, b10C_set (hlt hs (by decide)) (by decide) (by decide) (by decide) hc, fun j _ => rfl⟩)
    | 6, hd =>
      have e1 := veval_of (hvl 5 _ rfl (hdp 5 (by decide)))
      exact wpOp_of _ rfl rfl (v_nil (.tmp 63) _ rfl e1 ⟨p, _, rfl, rfl, b10C_set (hlt hs (by decide)) (by decide) (by decide) (by decide) hc, fun j _ => rfl⟩)
    | 7, hd =>
      have e1 := veval_of (hvl 6 _ rfl (hdp 6 (by decide)))
      exact wpOp_of _ rfl rfl (v_f48b (.tmp 64) _ _ rfl e1 ⟨p, _, rfl, rfl, b10C_set (hlt hs (by decide)) (by decide) (by decide) (by decide) hc, fun j _ => rfl⟩)
    | 8, hd =>
      have e1 := veval_of (hvl 7 _ rfl (hdp 7 (by decide)))
      exact wpOp_of _ rfl rfl (v_load46 (.tmp 65) _ _ _ rfl e1 (hFC _ _ _ hc).2.1 ⟨p, _, rfl, rfl, b10C_set (hlt hs (by decide)) (by decide) (by decide) (by decide) hc, fun j _ => rfl⟩)
    | 9, hd =>
      have e1 := hvl 8 _ rfl (hdp 8 (by decide))
      have n13 : listed.getD 13 false = false := by
        cases e : listed.getD 13 false with
        | false => rfl
        | true => rw [hdn 13 e 9 (by decide)] at hno; cases hno
      obtain ⟨c1, c2, c3⟩ := hc.1 n13
      refine wpOp_of _ rfl rfl (v_build96 66 _ rfl e1 ⟨{ p with ga := w'.heap.size }, _, rfl, rfl, ?_, fun j hj => ?_⟩)
      · have hsz := hlt (i := 9) hs (by decide)
        have hks : w.heap.size ≤ w'.heap.size := c1.size
        unfold b10C
        rw [got_set hsz, got_set hsz, got_set hsz, if_neg (by decide), if_pos rfl, if_neg (by decide)]
        refine ⟨fun _ => ⟨c1.alloc _, fun _ => ⟨Arr.new w' 46 _, hks⟩, fun h => ⟨(c3 h).1.keep ((Keep.refl _).alloc _), (c3 h).2⟩⟩, fun h => ?_⟩
        rw [n13] at h; cases h
      · have hne : j ≠ 9 := fun e => by rw [e, hno] at hj; cases hj
        match j, hne with
        | 0, _ => rfl
        | 1, _ => rfl
        | 2, _ => rfl
        | 3, _ => rfl
        | 4, _ => rfl
        | 5, _ => rfl
        | 6, _ => rfl
        | 7, _ => rfl
        | 8, _ => rfl
        | 9, hne => exact absurd rfl hne
        | 10, _ => rfl
        | 11, _ => rfl
        | 12, _ => rfl
        | 13, _ => rfl
        | 14, _ => rfl
        | 15, _ => rfl
        | 16, _ => rfl
        | 17, _ => rfl
        | j + 18, _ => rfl
    | 10, hd =>
      have e1 := o7 a hot
      exact wpOp_of _ rfl rfl (v_f48b (.tmp 7) _ _ rfl e1 ⟨p, _, rfl, rfl, b10C_set (hlt hs (by decide)) (by decide) (by decide) (by decide) hc, fun j _ => rfl⟩)
    | 11, hd =>
      have e1 := veval_of (hvl 10 _ rfl (hdp 10 (by decide)))
      exact wpOp_of _ rfl rfl (v_load46 (.tmp 68) _ _ _ rfl e1 (hFC _ _ _ hc).2.2 ⟨p, _, rfl, rfl, b10C_set (hlt hs (by decide)) (by decide) (by decide) (by decide) hc, fun j _ => rfl⟩)
    | 12, hd =>
      have e1 := hvl 11 _ rfl (hdp 11 (by decide))
      have n13 : listed.getD 13 false = false := by
        cases e : listed.getD 13 false with
        | false => rfl
        | true => rw [hdn 13 e 12 (by decide)] at hno; cases hno
      obtain ⟨c1, c2, c3⟩ := hc.1 n13
      refine wpOp_of _ rfl rfl (v_build96 69 _ rfl e1 ⟨{ p with gb := w'.heap.size }, _, rfl, rfl, ?_, fun j hj => ?_⟩)
      · have hsz := hlt (i := 12) hs (by decide)
        have hks : w.heap.size ≤ w'.heap.size := c1.size
        unfold b10C
        rw [got_set hsz, got_set hsz, got_set hsz, if_neg (by decide), if_neg (by decide), if_pos rfl]
        refine ⟨fun _ => ⟨c1.alloc _, fun h => ⟨(c2 h).1.keep ((Keep.refl _).alloc _), (c2 h).2⟩, fun _ => ⟨Arr.new w' 46 _, hks⟩⟩, fun h => ?_⟩
        rw [n13] at h; cases h
      · have hne : j ≠ 12 := fun e => by rw [e, hno] at hj; cases hj
        match j, hne with
        | 0, _ => rfl
        | 1, _ => rfl
        | 2, _ => rfl
        | 3, _ => rfl
        | 4, _ => rfl
        | 5, _ => rfl
        | 6, _ => rfl
        | 7, _ => rfl
        | 8, _ => rfl
        | 9, _ => rfl
        | 10, _ => rfl
        | 11, _ => rfl
        | 12, hne => exact absurd rfl hne
        | 13, _ => rfl
        | 14, _ => rfl
        | 15, _ => rfl
        | 16, _ => rfl
        | 17, _ => rfl
        | j + 18, _ => rfl
    | 13, hd =>
      have e1 := veval_of (hvl 1 _ rfl (hdp 1 (by decide)))
      have e2 := veval_of (hvl 4 _ rfl (hdp 4 (by decide)))
      have e3 := veval_of (hvl 9 _ rfl (hdp 9 (by decide)))
      have e4 := veval_of (hvl 12 _ rfl (hdp 12 (by decide)))
      obtain ⟨c1, c2, c3⟩ := hc.1 hno
      obtain ⟨c4, c5⟩ := c2 (hdp 9 (by decide))
      obtain ⟨c6, c7⟩ := c3 (hdp 12 (by decide))
      refine wpOp_of _ rfl rfl (v_call 77 _ _ rfl _ Try.func77 (by kernel_rfl) (by kernel_rfl) #[.pointer (some ⟨gB, 0, none⟩), .int .i64 ((pc : Nat) : Int), .slice (some ⟨p.ga, 0, none⟩) 1 1, .slice (some ⟨p.gb, 0, none⟩) 1 1] (by simp [e1, e2, e3, e4]) ((hC _ _ _ c1 c4 c6 c5 c7).mono ?_))
      rintro e w2 ⟨rb, ro, rc, bit, rfl, hr⟩
      refine ⟨_, rfl, { p with rb := rb, ro := ro, rc := rc, bit := bit }, _, rfl, rfl, ?_, fun j hj => ?_⟩
      · have hsz := hlt (i := 13) hs (by decide)
        unfold b10C
        rw [got_set hsz, if_pos rfl]
        exact ⟨(fun h => by cases h), fun _ => hr⟩
      · have hne : j ≠ 13 ∧ j ≠ 14 ∧ j ≠ 15 := by
          have n14 : listed.getD 14 false = false := by
            cases e : listed.getD 14 false with
            | false => rfl
            | true => rw [hdn 14 e 13 (by decide)] at hno; cases hno
          refine ⟨fun e => ?_, fun e => ?_, fun e => ?_⟩
          · rw [e, hno] at hj; cases hj
          · rw [e, n14] at hj; cases hj
          · rw [e] at hj
            rw [hdn 15 hj 14 (by decide)] at n14; cases n14
        match j, hne with
        | 0, _ => rfl
        | 1, _ => rfl
        | 2, _ => rfl
        | 3, _ => rfl
        | 4, _ => rfl
        | 5, _ => rfl
        | 6, _ => rfl
        | 7, _ => rfl
        | 8, _ => rfl
        | 9, _ => rfl
        | 10, _ => rfl
        | 11, _ => rfl
        | 12, _ => rfl
        | 13, hne => exact absurd rfl hne.1
        | 14, hne => exact absurd rfl hne.2.1
        | 15, hne => exact absurd rfl hne.2.2
        | 16, _ => rfl
        | 17, _ => rfl
        | j + 18, _ => rfl
    | 14, hd =>
      have e1 := veval_of (hvl 13 _ rfl (hdp 13 (by decide)))
      exact wpOp_of _ rfl rfl (v_index96 (.tmp 71) (.const (.int .i64 0)) _ _ _ _ 0 rfl e1 rfl (by decide) ⟨p, _, rfl, rfl, b10C_set (hlt hs (by decide)) (by decide) (by decide) (by decide) hc, fun j _ => rfl⟩)
    | 15, hd =>
      have e1 := veval_of (hvl 14 _ rfl (hdp 14 (by decide)))
      have h13 : listed.getD 13 false = true := hdn 14 (hdp 14 (by decide)) 13 (by decide)
      exact wpOp_of _ rfl rfl (v_load46 (.tmp 72) _ _ _ rfl e1 (hG _ _ _ _ _ (hc.2 h13)).2 ⟨p, _, rfl, rfl, b10C_set (hlt hs (by decide)) (by decide) (by decide) (by decide) hc, fun j _ => rfl⟩)
    | 16, hd =>
      have e1 := veval_of (hvl 0 _ rfl (hdp 0 (by decide)))
      exact wpOp_of _ rfl rfl (v_nil (.tmp 58) _ rfl e1 ⟨p, _, rfl, rfl, b10C_set (hlt hs (by decide)) (by decide) (by decide) (by decide) hc, fun j _ => rfl⟩)
    | 17, hd =>
      have e1 := veval_of (hvl 16 _ rfl (hdp 16 (by decide)))
      exact wpOp_of _ rfl rfl (v_f48b (.tmp 74) _ _ rfl e1 ⟨p, _, rfl, rfl, b10C_set (hlt hs (by decide)) (by decide) (by decide) (by decide) hc, fun j _ => rfl⟩)
    | i + 18, hd => simp at hd
  · intro listed p W hall hc
    have hr := hc.2 (hall 13 (by decide))
    obtain ⟨g3, g4⟩ := hend p W hr
    have hnd : ((b10L gB gF oF gO cb co cc pc fT fE p).map Prod.fst).Nodup := by
      rw [show (b10L gB gF oF gO cb co cc pc fT fE p).map Prod.fst = [58, 59, 60, 61, 62, 63, 64, 65, 66, 67, 68, 69, 70, 71, 72, 73, 74, 75] from rfl]; decide
    have hs2 : ∀ x ∈ b10L gB gF oF gO cb co cc pc fT fE p, x.1 < a0.tmps.size := by
      intro x hx
      have hx1 : x.1 ∈ (b10L gB gF oF gO cb co cc pc fT fE p).map Prod.fst := List.mem_map_of_mem hx
      rw [show (b10L gB gF oF gO cb co cc pc fT fE p).map Prod.fst = [58, 59, 60, 61, 62, 63, 64, 65, 66, 67, 68, 69, 70, 71, 72, 73, 74, 75] from rfl] at hx1
      rw [hz0]
      have : ∀ y ∈ [58, 59, 60, 61, 62, 63, 64, 65, 66, 67, 68, 69, 70, 71, 72, 73, 74, 75], y < 76 := by decide
      exact this _ hx1
    have k1 : (lay a0 (b10L gB gF oF gO cb co cc pc fT fE p)).tmps[75]? = some (.pointer (some ⟨gF, oF + 1, none⟩)) := lay_at _ a0 hnd hs2 (75, .pointer (some ⟨gF, oF + 1, none⟩)) (List.mem_of_getElem? (i := 17) rfl)
    have k2 : (lay a0 (b10L gB gF oF gO cb co cc pc fT fE p)).tmps[73]? = some (.int .i64 ((p.bit : Nat) : Int)) := lay_at _ a0 hnd hs2 (73, .int .i64 ((p.bit : Nat) : Int)) (List.mem_of_getElem? (i := 15) rfl)
    have g2 := (hG _ _ _ _ W hr).1.2.1
    generalize lay a0 (b10L gB gF oF gO cb co cc pc fT fE p) = A at *
    show wpOps Try.prog b10 Q [18] A W
    rw [wpOps_cons]
    exact wpOp_of _ rfl rfl (v_store46 (.tmp 75) (.tmp 73) _ _ _ _ rfl rfl (veval_of k1) (veval_of k2) g2 g3 g4)
end Go.Proofs.Qxb6500772a
