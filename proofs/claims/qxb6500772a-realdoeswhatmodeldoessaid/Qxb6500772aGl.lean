/- blastlaw: what stands in a region that pops expressions and boxes a new one. -/
import Derived.Test.Qxb6500772aGh
namespace Go.Proofs.Qxb6500772a
open Go Go.RowKit Go.Qm
set_option linter.unusedVariables false
set_option linter.unusedSimpArgs false
/-- What popN has left. -/
structure Popd (B : Nat) (P : Nat → Prop) (w0 w : World) (gb : Nat) (cv xv sv pv nv : Value) (cels : List Cel) (l ys : List NE) (ss : List NS) (bad : NE) (cu nx : List (Int × Nat)) (cf : Bool) (nf : Int) (xv' : Value) (gL : Nat) : Prop where
  ob : xv'.ownBlock = xv.ownBlock
  nw : w0.heap.size ≤ gL
  bb : BB B (fun q => P q ∨ q = gL) w gb cv xv' sv pv nv cels l ss bad cu nx cf nf
  rw' : Rows (fun q => P q ∨ q = gL) w (.slice (some ⟨gL, 0, none⟩) ys.length ys.length) 7 (ys.map neC)
  el : ELW (fun q => P q ∨ q = gL) w (mkE ys) (ys.map neC)
section
variable {B : Nat} {P : Nat → Prop} {w0 w w' : World} {gb : Nat} {cv xv sv pv nv : Value} {cels : List Cel} {l ys : List NE} {ss : List NS} {bad : NE} {cu nx : List (Int × Nat)} {cf : Bool} {nf : Int} {xv' : Value} {gL : Nat}
theorem Popd.fr (h : Popd B P w0 w gb cv xv sv pv nv cels l ys ss bad cu nx cf nf xv' gL) {R : Nat → Prop} (f : Fr R w w') (hlow : ∀ q, fpB gb cv xv sv pv nv q → ¬ R q) (hP : ∀ q, P q → ¬ R q) (hg : ¬ R gL) : Popd B P w0 w' gb cv xv sv pv nv cels l ys ss bad cu nx cf nf xv' gL := by
  have hp : ∀ q, (P q ∨ q = gL) → ¬ R q := fun q a => a.elim (hP q) (fun e => by rw [e]; exact hg)
  have kp : KP (fun q => P q ∨ q = gL) w w' := KP.fr f hp
  refine ⟨h.ob, h.nw, h.bb.frN f (fun q r => ⟨fun a => hlow q ?_ r, fun a => hp q a r⟩), h.rw'.step kp, h.el.step kp⟩
  rcases a with a | a | a | a
  · exact Or.inl a
  · exact Or.inr (Or.inl a)
  · exact Or.inr (Or.inr (Or.inl (by rw [← h.ob]; exact a)))
  · exact Or.inr (Or.inr (Or.inr a))
theorem Popd.keep (h : Popd B P w0 w gb cv xv sv pv nv cels l ys ss bad cu nx cf nf xv' gL) (k : Keep w w') : Popd B P w0 w' gb cv xv sv pv nv cels l ys ss bad cu nx cf nf xv' gL :=
  h.fr (Fr.keep (P := fun _ => False) k) (fun _ _ a => a) (fun _ _ a => a) (fun a => a)
end
def zE7 : List Value := [.int .i64 0, .int .i64 0, .int .i64 0, .int .u64 0, .int .i64 0, .int .i64 0, .slice none 0 0]
structure R4 (B : Nat) (P : Nat → Prop) (w0 : World) (gb : Nat) (cv xv sv pv nv : Value) (cels : List Cel) (l ys : List NE) (ss : List NS) (bad : NE) (cu nx : List (Int × Nat)) (cf : Bool) (nf : Int) (vs : Nat → Option Value) (w : World) : Prop where
  fr : Fr (fun q => q = gb) w0 w
  a : vs 0 = none → BB B P w gb cv xv sv pv nv cels (l ++ ys) ss bad cu nx cf nf
  b : ∀ u, vs 0 = some u → ∃ xv' gL, u = .slice (some ⟨gL, 0, none⟩) ys.length ys.length ∧ Popd B P w0 w gb cv xv sv pv nv cels l ys ss bad cu nx cf nf xv' gL ∧ ∀ p, vs 2 = some p → p ≠ .pointer (some ⟨gL, 0, none⟩)
  c : ∀ u, vs 1 = some u → ∃ f gL, EFr f ∧ vs 0 = some (.slice (some ⟨gL, 0, none⟩) ys.length ys.length) ∧ u = .agg (efC f (.slice (some ⟨gL, 0, none⟩) ys.length ys.length)).toArray
  d : ∀ p, vs 2 = some p → ∃ gE, p = .pointer (some ⟨gE, 0, none⟩) ∧ w0.heap.size ≤ gE ∧ (vs 3 = none → Arr w gE 31 zE7) ∧ (∀ u, vs 3 = some u → ∃ cs, vs 1 = some (.agg cs.toArray) ∧ Arr w gE 31 cs)
  e : ∀ u, vs 4 = some u → ∃ z : Int, u = .int .i64 z ∧ I64 z
section
variable {B : Nat} {P : Nat → Prop} {w0 w w' : World} {gb : Nat} {cv xv sv pv nv : Value} {cels : List Cel} {l ys : List NE} {ss : List NS} {bad : NE} {cu nx : List (Int × Nat)} {cf : Bool} {nf : Int} {vs : Nat → Option Value}
theorem R4.start (h : BB B P w0 gb cv xv sv pv nv cels (l ++ ys) ss bad cu nx cf nf) : R4 B P w0 gb cv xv sv pv nv cels l ys ss bad cu nx cf nf (fun _ => none) w0 :=
  ⟨Fr.refl _ _, fun _ => h, (fun u h => by cases h), (fun u h => by cases h), (fun u h => by cases h), (fun u h => by cases h)⟩
theorem R4.wid (h : R4 B P w0 gb cv xv sv pv nv cels l ys ss bad cu nx cf nf vs w) {z : Int} (hz : I64 z) : R4 B P w0 gb cv xv sv pv nv cels l ys ss bad cu nx cf nf (upv vs 4 (.int .i64 z)) w :=
  ⟨h.fr, h.a, h.b, h.c, h.d, fun u hu => ⟨z, by rw [upv_same] at hu; exact (Option.some.inj hu).symm, hz⟩⟩
theorem R4.pop (h : R4 B P w0 gb cv xv sv pv nv cels l ys ss bad cu nx cf nf vs w) (h0 : BB B P w0 gb cv xv sv pv nv cels (l ++ ys) ss bad cu nx cf nf) (n0 : vs 0 = none) (n1 : vs 1 = none) (n3 : vs 3 = none) (hl : l.length ≤ 90000) (hy : ys.length ≤ 1000) :
    Calls Try.prog 51 #[.pointer (some ⟨gb, 0, none⟩), .int .i64 ((ys.length : Nat) : Int)] w fun e w' => ∃ u, e = .returned u ∧ R4 B P w0 gb cv xv sv pv nv cels l ys ss bad cu nx cf nf (upv vs 0 u) w' := by
  refine (popN_c (h.a n0) hl hy).mono ?_
  rintro e w' ⟨xv', gL, rfl, ob, nw, fr, bb, rr, el⟩
  have hsz := h.fr.size
  refine ⟨_, rfl, h.fr.trans fr, fun x => (by cases x), fun u hu => ?_, fun u hu => ?_, fun p hp => ?_, h.e⟩
  · rw [upv_same] at hu
    refine ⟨xv', gL, (Option.some.inj hu).symm, ⟨ob, Nat.le_trans hsz nw, bb, rr, el⟩, fun p hp => ?_⟩
    obtain ⟨gE, rfl, hE, hE2, -⟩ := h.d p hp
    have := (hE2 n3).lt
    intro e
    injection e with e; injection e with e; injection e with e
    omega
  · have hu' : vs 1 = some u := hu
    rw [n1] at hu'; cases hu'
  · obtain ⟨gE, hp1, hE, hE2, -⟩ := h.d p hp
    refine ⟨gE, hp1, hE, fun _ => fr.arr (fun e => ?_) (hE2 n3), fun u hu => ?_⟩
    · have := h0.ar.lt
      have : gE = gb := e
      omega
    · have hu' : vs 3 = some u := hu
      rw [n3] at hu'; cases hu'
theorem R4.bld (h : R4 B P w0 gb cv xv sv pv nv cels l ys ss bad cu nx cf nf vs w) {u : Value} (n0 : vs 0 = some u) (n3 : vs 3 = none) : ∃ gL, u = .slice (some ⟨gL, 0, none⟩) ys.length ys.length ∧ ∀ f, EFr f → R4 B P w0 gb cv xv sv pv nv cels l ys ss bad cu nx cf nf (upv vs 1 (.agg (efC f (.slice (some ⟨gL, 0, none⟩) ys.length ys.length)).toArray)) w := by
  obtain ⟨xv', gL, rfl, hp, hne⟩ := h.b u n0
  refine ⟨gL, rfl, fun f hf => ⟨h.fr, h.a, h.b, fun u hu => ?_, fun p hp => ?_, h.e⟩⟩
  · rw [upv_same] at hu
    exact ⟨f, gL, hf, n0, (Option.some.inj hu).symm⟩
  · obtain ⟨gE, hp1, hE, hE2, -⟩ := h.d p hp
    refine ⟨gE, hp1, hE, hE2, fun u hu => ?_⟩
    have hu' : vs 3 = some u := hu
    rw [n3] at hu'; cases hu'
theorem R4.alloc (h : R4 B P w0 gb cv xv sv pv nv cels l ys ss bad cu nx cf nf vs w) (n3 : vs 3 = none) : R4 B P w0 gb cv xv sv pv nv cels l ys ss bad cu nx cf nf (upv vs 2 (.pointer (some ⟨w.heap.size, 0, none⟩))) (w.alloc (.cells zE7.toArray 31)) := by
  have k : Keep w (w.alloc (.cells zE7.toArray 31)) := (Keep.refl w).alloc _
  refine ⟨h.fr.trans (Fr.keep k), fun x => (h.a x).keep k, fun u hu => ?_, h.c, fun p hp => ?_, h.e⟩
  · obtain ⟨xv', gL, hu, hp, -⟩ := h.b u hu
    refine ⟨xv', gL, hu, hp.keep k, fun p hp' => ?_⟩
    rw [upv_same] at hp'
    rw [← Option.some.inj hp']
    intro e
    injection e with e; injection e with e; injection e with e
    have := (hp.bb.sp gL (Or.inr rfl)).2.1
    omega
  · rw [upv_same] at hp
    refine ⟨w.heap.size, (Option.some.inj hp).symm, h.fr.size, fun _ => Arr.new w 31 _, fun u hu => ?_⟩
    have hu' : vs 3 = some u := hu
    rw [n3] at hu'; cases hu'
theorem R4.store (h : R4 B P w0 gb cv xv sv pv nv cels l ys ss bad cu nx cf nf vs w) (h0 : BB B P w0 gb cv xv sv pv nv cels (l ++ ys) ss bad cu nx cf nf) {u1 u2 : Value} (n1 : vs 1 = some u1) (n2 : vs 2 = some u2) (n3 : vs 3 = none) : ∃ gE f gL, u2 = .pointer (some ⟨gE, 0, none⟩) ∧ u1 = .agg (efC f (.slice (some ⟨gL, 0, none⟩) ys.length ys.length)).toArray ∧ (∀ k < 7, ∃ u, w.cell? ⟨gE, 0 + k, none⟩ = some u) ∧ (∀ k, w.frozen? ⟨gE, k, none⟩ = false) ∧ ∀ d, R4 B P w0 gb cv xv sv pv nv cels l ys ss bad cu nx cf nf (upv vs 3 d) (stC w gE 0 (efC f (.slice (some ⟨gL, 0, none⟩) ys.length ys.length))) := by
  obtain ⟨gE, rfl, hE, hA, -⟩ := h.d u2 n2
  obtain ⟨f, gL, hf, m0, rfl⟩ := h.c u1 n1
  have ha := hA n3
  refine ⟨gE, f, gL, rfl, rfl, fun k hk => ⟨_, by rw [Nat.zero_add, ha.cell]; exact List.getElem?_eq_getElem hk⟩, fun k => ha.frozen k, fun d => ?_⟩
  have fr := stC_fr (g := gE) (efC f (.slice (some ⟨gL, 0, none⟩) ys.length ys.length)) w 0
  have hlow : ∀ q, fpB gb cv xv sv pv nv q → ¬ q = gE := fun q a e => by have := h0.low q a; omega
  have hP : ∀ q, P q → ¬ q = gE := fun q a e => by have := (h0.sp q a).2.1; omega
  refine ⟨fr_new h.fr fr (fun q e => by rw [show q = gE from e]; exact hE), fun x => ?_, fun u hu => ?_, h.c, fun p hp => ?_, h.e⟩
  · have x' : vs 0 = none := x
    rw [m0] at x'; cases x'
  · obtain ⟨xv', gL', hu', hp, hne⟩ := h.b u hu
    refine ⟨xv', gL', hu', hp.fr fr hlow hP (fun e => ?_), hne⟩
    exact hne _ n2 (by rw [show gL' = gE from e])
  · have hp' : vs 2 = some p := hp
    rw [n2] at hp'
    refine ⟨gE, (Option.some.inj hp').symm, hE, (fun x => by cases x), fun u hu => ⟨_, n1, ?_⟩⟩
    exact stC_arr _ w zE7 0 ha
theorem R4.fin (h : R4 B P w0 gb cv xv sv pv nv cels l ys ss bad cu nx cf nf vs w) {u0 u1 u2 u3 : Value} (n0 : vs 0 = some u0) (n1 : vs 1 = some u1) (n2 : vs 2 = some u2) (n3 : vs 3 = some u3) : ∃ xv' gL gE f, vs 2 = some (.pointer (some ⟨gE, 0, none⟩)) ∧ EFr f ∧ w0.heap.size ≤ gE ∧ gL ≠ gE ∧ Popd B P w0 w gb cv xv sv pv nv cels l ys ss bad cu nx cf nf xv' gL ∧ Arr w gE 31 (efC f (.slice (some ⟨gL, 0, none⟩) ys.length ys.length)) ∧ Fr (fun q => q = gb) w0 w := by
  obtain ⟨gE, rfl, hE, -, hA⟩ := h.d u2 n2
  obtain ⟨f, gL, hf, m0, rfl⟩ := h.c u1 n1
  obtain ⟨xv', gL', hu', hp, hne⟩ := h.b u0 n0
  rw [n0] at m0
  have e1 := Option.some.inj m0
  rw [hu'] at e1
  injection e1 with e2
  injection e2 with e2
  injection e2 with e2
  subst e2
  obtain ⟨cs, c1, c2⟩ := hA u3 n3
  rw [n1] at c1
  have e3 := Option.some.inj c1
  injection e3 with e3
  have e4 := congrArg Array.toList e3
  simp only at e4
  subst e4
  exact ⟨xv', gL', gE, f, n2, hf, hE, fun e => hne _ n2 (by rw [e]), hp, c2, h.fr⟩
end
end Go.Proofs.Qxb6500772a
