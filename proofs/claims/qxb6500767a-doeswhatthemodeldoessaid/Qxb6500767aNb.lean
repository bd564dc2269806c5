/- unionvfsm: where, kindOf, refuse, sizeOK, modeOK, has. -/
import Derived.Test.Qxb6500767aNa
namespace Go.Proofs.Qxb6500767a
open Go.RowKit Go.Qm
set_option linter.unusedVariables false
set_option linter.unusedSimpArgs false
attribute [local go_sem ↓] Go.wp_at_zero Go.wp_at_succ
theorem sizeOK_c (n : Int) (w : World) : Calls Try.prog 57 #[.int .i64 n] w fun e w' => e = .returned (.bool (vsB n)) ∧ w' = w := by
  by_cases h : 0 ≤ n
  · have HV : Hid (vsB n = decide (n ≤ 1048576)) := Hid.mk (by unfold vsB; rw [decide_eq_true h]; rfl)
    have z : decide (0 ≤ n) = true := decide_eq_true h
    generalize vsB n = V at *
    go_enter Try.func57, Try.ntmps57
    go_wp2_with fail
    go_ret
    rw [HV.out]
    exact ⟨rfl, rfl⟩
  · have HV : Hid (vsB n = false) := Hid.mk (by unfold vsB; rw [decide_eq_false h]; rfl)
    have z : decide (0 ≤ n) = false := decide_eq_false h
    generalize vsB n = V at *
    go_enter Try.func57, Try.ntmps57
    go_wp2_with fail
    go_ret
    rw [HV.out]
    exact ⟨rfl, rfl⟩
def mdB (n : Int) : Bool := decide (0 ≤ n) && decide (n ≤ 511)
theorem modeOK_c (n : Int) (w : World) : Calls Try.prog 60 #[.int .i64 n] w fun e w' => e = .returned (.bool (mdB n)) ∧ w' = w := by
  by_cases h : 0 ≤ n
  · have HV : Hid (mdB n = decide (n ≤ 511)) := Hid.mk (by unfold mdB; rw [decide_eq_true h]; rfl)
    have z : decide (0 ≤ n) = true := decide_eq_true h
    generalize mdB n = V at *
    go_enter Try.func60, Try.ntmps60
    go_wp2_with fail
    go_ret
    rw [HV.out]
    exact ⟨rfl, rfl⟩
  · have HV : Hid (mdB n = false) := Hid.mk (by unfold mdB; rw [decide_eq_false h]; rfl)
    have z : decide (0 ≤ n) = false := decide_eq_false h
    generalize mdB n = V at *
    go_enter Try.func60, Try.ntmps60
    go_wp2_with fail
    go_ret
    rw [HV.out]
    exact ⟨rfl, rfl⟩
def hsB (f b : Int) : Bool := (f.tdiv b).tmod 2 == 1
def refC (e : Int) : List Value := [.int .i64 e, .int .i64 0, str [], .int .i64 0, .int .i64 0, .int .i64 0, .int .i64 0, .int .i64 0, .slice none 0 0]
set_option maxRecDepth 3000 in
theorem refuse_c (er : Int) (w : World) : Calls Try.prog 56 #[.int .i64 er] w fun e w' => e = .returned (.agg #[.int .i64 er, .int .i64 0, str [], .int .i64 0, .int .i64 0, .int .i64 0, .int .i64 0, .int .i64 0, .slice none 0 0]) ∧ Keep w w' := by
  go_enter Try.func56, Try.ntmps56
  go_wp2_with fail
  refine bodyPost_ret (results_cell_row1 rfl _ _ w.heap.size 34 (refC er).toArray (0, 0) _ rfl ?_ Try.underlying34 rfl s34) rfl ?_
  · exact Arr.new w 34 (refC er)
  · exact ⟨rfl, (Keep.refl w).alloc _⟩
theorem has_c (f b : Int) (hb : 0 < b) (hf1 : -9223372036854775808 ≤ f) (hf2 : f ≤ 9223372036854775807) (w : World) : Calls Try.prog 88 #[.int .i64 f, .int .i64 b] w fun e w' => e = .returned (.bool (hsB f b)) ∧ w' = w := by
  unfold hsB
  go_enter Try.func88, Try.ntmps88
  go_wp2_with fail
  go_ret
  exact ⟨rfl, rfl⟩
section
variable {B gm gt : Nat} {fp fp' : Nat → Prop} {w w' : World} {s : Stt} {O : List Nat} {ov : Value}
theorem kindOf_c (h : MW B fp w gm gt s O ov) {i : Nat} (hi : i < s.T.length) : Calls Try.prog 65 #[.pointer (some ⟨gm, 0, none⟩), .int .i64 i] w fun e w' => e = .returned (.int .i64 ((at' s.T i).kind : Nat)) ∧ w' = w := by
  obtain ⟨x0, -⟩ := h.cells
  obtain ⟨bn, cap, c0, h1, h2, h3⟩ := h.tree.tr
  obtain ⟨dv, ev, n0, -⟩ := h3 i hi
  unfold maxLen at h2
  have i1 : (i : Int) < s.T.length := by omega
  have i2 : (0 : Int) ≤ i := by omega
  clear h h3
  go_enter Try.func65, Try.ntmps65
  go_wp2_with fail
  go_ret
  exact ⟨rfl, rfl⟩
set_option maxRecDepth 3000 in
theorem where_c (h : MW B fp w gm gt s O ov) (x : Int) (i : Nat) (hi : i ≤ O.length) (hn : ∀ j (hj : j < O.length), j < i → ((O[j] : Nat) : Int) ≠ x) (hx : ∀ (h : i < O.length), ((O[i] : Nat) : Int) = x) :
    Calls Try.prog 55 #[.pointer (some ⟨gm, 0, none⟩), .int .i64 x] w fun e w' => e = .returned (.int .i64 (if i < O.length then (i : Int) else -1)) ∧ w' = w := by
  obtain ⟨-, x1⟩ := h.cells
  have HH := Hid.mk h
  obtain ⟨oa, oc, hov, o1, o2⟩ := h.form
  have HN := Hid.mk hn
  have HX := Hid.mk hx
  have hlen : O.length ≤ 32 := by
    have h1 := h.rel.nd
    have h2 : ∀ n ∈ O, n < 32 := fun n hn => ((h.rel.mem n).1 hn).1
    have h3 := List.Nodup.length_le_of_subset (l₂ := List.range 32) h1 (fun n hn => List.mem_range.2 (h2 n hn))
    simpa using h3
  unfold maxLen at o2
  clear h hn hx
  subst hov
  go_enter Try.func55, Try.ntmps55
  go_wp2_with fail
  go_loopg [5] O.length (fun gk iv wr => ∃ k : Nat, k + gk = O.length ∧ iv = .int .i64 k ∧ k ≤ i ∧ wr = w)
  case atStart => exact ⟨0, Nat.zero_add _, rfl, Nat.zero_le _, rfl⟩
  case round =>
    obtain ⟨k, hk, rfl, hki, rfl⟩ := hrel
    by_cases hlt : k < O.length
    · have j1 : (k : Int) < O.length := by omega
      obtain ⟨g, c, hov, -, -, -, y0, -⟩ := HH.out.row hlt
      obtain ⟨rfl, -⟩ : oa = some ⟨g, 0, none⟩ ∧ oc = c := by simpa using hov
      clear hov
      by_cases hx : k = i
      · subst hx
        have q1 : (((O[k] : Nat) : Int) == x) = true := by simpa using HX.out hlt
        go_wp2_with fail
        go_ret
        exact ⟨by first | rfl | rw [if_pos hlt]; rfl, rfl⟩
      · have q1 : (((O[k] : Nat) : Int) == x) = false := by simpa using HN.out k hlt (by omega)
        go_wp2_with fail
        go_roundg (gk - 1)
        case measure => omega
        case rel => exact ⟨k + 1, by omega, by go_num, by omega, rfl⟩
    · have j1 : ¬ (k : Int) < O.length := by omega
      go_wp2_with fail
      go_ret
      exact ⟨by first | rfl | rw [if_neg (by omega)]; rfl, rfl⟩
theorem where_t (h : MW B fp w gm gt s O ov) {i : Nat} (hi : i < O.length) : Calls Try.prog 55 #[.pointer (some ⟨gm, 0, none⟩), .int .i64 (O[i] : Nat)] w fun e w' => e = .returned (.int .i64 i) ∧ w' = w := by
  have := where_c h ((O[i] : Nat) : Int) i (by omega) (fun j hj hji e => by
    have : O[j] = O[i] := by omega
    have := (List.getElem_inj h.rel.nd).1 this
    omega) (fun _ => rfl)
  rw [if_pos hi] at this
  exact this
theorem where_f (h : MW B fp w gm gt s O ov) {x : Int} (ho : opn s.u x = false) : Calls Try.prog 55 #[.pointer (some ⟨gm, 0, none⟩), .int .i64 x] w fun e w' => e = .returned (.int .i64 (-1)) ∧ w' = w := by
  have := where_c h x O.length (Nat.le_refl _) (fun j hj _ => h.rel.out ho j hj) (fun hh => absurd hh (Nat.lt_irrefl _))
  rw [if_neg (Nat.lt_irrefl _)] at this
  exact this
/-- What a step of the model answers and leaves. -/
def MP (B : Nat) (fp : Nat → Prop) (w : World) (gm gt : Nat) (ov : Value) (a : AnsV) (s : Stt) (e : Ending) (w' : World) : Prop :=
  ∃ v fp' O' ov', e = .returned (.agg (ansC a v).toArray) ∧ DirO w.heap.size w' v a.page ∧ MW B fp' w' gm gt s O' ov' ∧ Stp (fpM fp gm ov) (fpM fp' gm ov') w w'
theorem MP.fin {fp1 : Nat → Prop} {w1 y z : World} {s' : Stt} {O' : List Nat} {ov' : Value} (h : MW B fp w gm gt s O ov) (k1 : Keep w w1) (M : MW B fp1 y gm gt s' O' ov') (st : Stp (fpM fp gm ov) (fpM fp1 gm ov') w1 y) {b : Nat} (hb : w.heap.size ≤ b ∧ b < w1.heap.size)
    {a : AnsV} {v : Value} (dv : DirO w1.heap.size y v a.page) (fr : Fr (fun q => q = b) y z) : MP B fp w gm gt ov a s' (.returned (.agg (ansC a v).toArray)) z := by
  have lt1 : ∀ q, fpM fp1 gm ov' q → ¬ (q = b) := fun q hq e => by
    rcases st.2 q hq with a | a
    · have := h.flt a; omega
    · omega
  refine ⟨v, fp1, O', ov', rfl, ?_, M.fr fr lt1, ?_⟩
  · exact (dv.fr fr (fun q hq e => by have := (dv.lt q hq).1; omega)).mono k1.size
  · have S := (Stp.keep k1 (fp := fpM fp gm ov)).trans st
    refine ⟨⟨fr.os.trans S.1.os, fr.tape.trans S.1.tape, fr.output.trans S.1.output, Nat.le_trans S.1.size fr.size, fun k hk hp => ?_⟩, S.2⟩
    rw [fr.block k (Nat.lt_of_lt_of_le hk S.1.size) (by omega)]
    exact S.1.block k hk hp
abbrev set9 (y : World) (g : Nat) (v0 v1 v2 v3 v4 v5 v6 v7 v8 : Value) : World :=
  ((((((((y.setCell ⟨g, 0, none⟩ v0).setCell ⟨g, 1, none⟩ v1).setCell ⟨g, 2, none⟩ v2).setCell ⟨g, 3, none⟩ v3).setCell ⟨g, 4, none⟩ v4).setCell ⟨g, 5, none⟩ v5).setCell ⟨g, 6, none⟩ v6).setCell ⟨g, 7, none⟩ v7).setCell ⟨g, 8, none⟩ v8
theorem fr9 {y : World} {g : Nat} (v0 v1 v2 v3 v4 v5 v6 v7 v8 : Value) : Fr (fun q => q = g) y (set9 y g v0 v1 v2 v3 v4 v5 v6 v7 v8) :=
  (((((((((Fr.refl (fun q => q = g) y).setCell (p := ⟨g, 0, none⟩) (Or.inl rfl) v0).setCell (p := ⟨g, 1, none⟩) (Or.inl rfl) v1).setCell (p := ⟨g, 2, none⟩) (Or.inl rfl) v2).setCell (p := ⟨g, 3, none⟩) (Or.inl rfl) v3).setCell (p := ⟨g, 4, none⟩) (Or.inl rfl) v4).setCell (p := ⟨g, 5, none⟩) (Or.inl rfl) v5).setCell (p := ⟨g, 6, none⟩) (Or.inl rfl) v6).setCell (p := ⟨g, 7, none⟩) (Or.inl rfl) v7).setCell (p := ⟨g, 8, none⟩) (Or.inl rfl) v8
theorem arr9 {y : World} {g : Nat} (h : Arr y g 34 zeroC) (v0 v1 v2 v3 v4 v5 v6 v7 v8 : Value) : Arr (set9 y g v0 v1 v2 v3 v4 v5 v6 v7 v8) g 34 [v0, v1, v2, v3, v4, v5, v6, v7, v8] :=
  ((((((((h.set 0 v0).set 1 v1).set 2 v2).set 3 v3).set 4 v4).set 5 v5).set 6 v6).set 7 v7).set 8 v8
theorem z9 {y : World} {g : Nat} (h : Arr y g 34 zeroC) : y.cell? ⟨g, 0, none⟩ = some (.int .i64 0) ∧ y.cell? ⟨g, 1, none⟩ = some (.int .i64 0) ∧ y.cell? ⟨g, 2, none⟩ = some (str []) ∧ y.cell? ⟨g, 3, none⟩ = some (.int .i64 0) ∧ y.cell? ⟨g, 4, none⟩ = some (.int .i64 0) ∧
    y.cell? ⟨g, 5, none⟩ = some (.int .i64 0) ∧ y.cell? ⟨g, 6, none⟩ = some (.int .i64 0) ∧ y.cell? ⟨g, 7, none⟩ = some (.int .i64 0) ∧ y.cell? ⟨g, 8, none⟩ = some (.slice none 0 0) ∧
    y.frozen? ⟨g, 0, none⟩ = false ∧ y.frozen? ⟨g, 1, none⟩ = false ∧ y.frozen? ⟨g, 2, none⟩ = false ∧ y.frozen? ⟨g, 3, none⟩ = false ∧ y.frozen? ⟨g, 4, none⟩ = false ∧ y.frozen? ⟨g, 5, none⟩ = false ∧ y.frozen? ⟨g, 6, none⟩ = false ∧ y.frozen? ⟨g, 7, none⟩ = false ∧ y.frozen? ⟨g, 8, none⟩ = false :=
  ⟨h.cell 0, h.cell 1, h.cell 2, h.cell 3, h.cell 4, h.cell 5, h.cell 6, h.cell 7, h.cell 8, h.frozen 0, h.frozen 1, h.frozen 2, h.frozen 3, h.frozen 4, h.frozen 5, h.frozen 6, h.frozen 7, h.frozen 8⟩
/-- The two blocks that a step makes: the operation and the answer. -/
structure Two (w w1 : World) (o : OpV) : Prop where
  k : Keep w w1
  a : Arr w1 w.heap.size 37 (opC o)
  b : Arr w1 (w.heap.size + 1) 34 zeroC
  sz : w1.heap.size = w.heap.size + 2
theorem Two.mk' (w : World) (o : OpV) : Two w ((w.alloc (.cells (opC o).toArray 37)).alloc (.cells zeroC.toArray 34)) o := by
  have e1 : (w.alloc (.cells (opC o).toArray 37)).heap.size = w.heap.size + 1 := by simp
  have k := ((Keep.refl w).alloc (.cells (opC o).toArray 37)).alloc (.cells zeroC.toArray 34)
  have b := Arr.new (w.alloc (.cells (opC o).toArray 37)) 34 zeroC
  rw [e1] at b
  exact ⟨k, (Arr.new w 37 (opC o)).keep ((Keep.refl _).alloc _), b, by simp⟩
end
end Go.Proofs.Qxb6500767a
