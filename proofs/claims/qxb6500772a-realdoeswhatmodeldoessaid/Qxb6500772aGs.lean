/- blastlaw: step, while a new element is boxed. -/
import Derived.Test.Qxb6500772aGq
namespace Go.Proofs.Qxb6500772a
open Go Go.RowKit Go.Qm
set_option linter.unusedVariables false
set_option linter.unusedSimpArgs false
structure Bx (B : Nat) (P : Nat → Prop) (w0 w : World) (gb gO gE : Nat) (cv xv sv pv nv : Value) (cels : List Cel) (es : List NE) (ss : List NS) (bad : NE) (cu nx : List (Int × Nat)) (cf : Bool) (nf : Int) (os : List Value) (e : TypeId) (cs : List Value) : Prop where
  fr : Fr (fun q => B ≤ q) w0 w
  b : BB B P w gb cv xv sv pv nv cels es ss bad cu nx cf nf
  o : Arr w gO 81 os
  og : gO ≠ gb
  x : Arr w gE e cs
  xg : ∀ q, fpB gb cv xv sv pv nv q → q ≠ gE
  xp : ¬ P gE
  xl : B ≤ gE
  oe : gO ≠ gE
section
variable {B : Nat} {P : Nat → Prop} {w0 w w' : World} {gb gO gE k : Nat} {cv xv sv pv nv : Value} {cels : List Cel} {es : List NE} {ss : List NS} {bad : NE} {cu nx : List (Int × Nat)} {cf : Bool} {nf : Int} {os : List Value} {e : TypeId} {cs : List Value}
theorem Bx.drew (h : Bx B P w0 w gb gO gE cv xv sv pv nv cels es ss bad cu nx cf nf os e cs) : Bx B P w0 w.drew gb gO gE cv xv sv pv nv cels es ss bad cu nx cf nf os e cs :=
  have k := (Keep.refl w).drew
  ⟨h.fr.trans (Fr.keep k), h.b.keep k, h.o.keep k, h.og, h.x.keep k, h.xg, h.xp, h.xl, h.oe⟩
theorem Bx.set (h : Bx B P w0 w gb gO gE cv xv sv pv nv cels es ss bad cu nx cf nf os e cs) (j : Nat) (u : Value) : Bx B P w0 (w.setCell ⟨gE, j, none⟩ u) gb gO gE cv xv sv pv nv cels es ss bad cu nx cf nf os e (cs.set j u) := by
  have f : Fr (fun q => q = gE) w (w.setCell ⟨gE, j, none⟩ u) := Fr.setCell (P := fun q => q = gE) (p := ⟨gE, j, none⟩) (Fr.refl _ w) (Or.inl rfl) u
  refine ⟨h.fr.trans (f.mono (fun q _ e => by rw [show q = gE from e]; exact h.xl)), h.b.frN f (fun q e => ⟨fun a => h.xg q a e, fun a => h.xp (by rw [← show q = gE from e]; exact a)⟩), f.arr h.oe h.o, h.og, h.x.set j u, h.xg, h.xp, h.xl, h.oe⟩
theorem Bx.kp (h : Bx B P w0 w gb gO gE cv xv sv pv nv cels es ss bad cu nx cf nf os e cs) (j : Nat) (u : Value) : KP P w (w.setCell ⟨gE, j, none⟩ u) :=
  KP.fr (Fr.setCell (P := fun q => q = gE) (p := ⟨gE, j, none⟩) (Fr.refl _ w) (Or.inl rfl) u) (fun q a e => h.xp (by rw [← show q = gE from e]; exact a))
theorem Bx.finE (h : Bx B P w0 w gb gO gE cv xv sv pv nv cels es ss bad cu nx cf nf os e cs) (k1 : cels.length ≤ k) (k2 : es.length ≤ k) (k3 : ss.length ≤ k) (k4 : cu.length ≤ k) (k5 : nx.length ≤ k) (k6 : (ss.map nsz).sum ≤ k) {g c : Nat} {x : NE} (L : Lat neC 31 gb w (fun v => bbL cv v sv bad pv nv cf nf) (fun w x => NEok P w x) (fun w v l => BBr B P w gb cv v sv pv nv cels l ss bad cu nx nf) xv es g c x true w') : BSt B gb (k + 1) w' ∧ Fr (fun q => B ≤ q) w0 w' := by
  refine ⟨⟨P, cv, _, sv, pv, nv, cels, _, ss, bad, cu, nx, cf, nf, BBr.b (cf := cf) L.c L.ar, by omega, by simp; omega, by omega, by omega, by omega, by omega⟩, h.fr.trans (L.fr.mono (fun q _ a => ?_))⟩
  rcases a with a | a
  · rw [a]; exact h.b.lo
  · exact (h.b.oe.lt q a).1
theorem Bx.finS (h : Bx B P w0 w gb gO gE cv xv sv pv nv cels es ss bad cu nx cf nf os e cs) {m : Nat} (k1 : cels.length ≤ k) (k2 : es.length ≤ k) (k3 : ss.length ≤ k) (k4 : cu.length ≤ k) (k5 : nx.length ≤ k) (k6 : (ss.map nsz).sum + m ≤ k + 1) {g c : Nat} {x : NS} (hx : nsz x = m) (L : Lat nsC 109 gb w (fun v => bbL cv xv v bad pv nv cf nf) (fun w x => NSok P w x) (fun w v l => BBr B P w gb cv xv v pv nv cels es l bad cu nx nf) sv ss g c x true w') : BSt B gb (k + 1) w' ∧ Fr (fun q => B ≤ q) w0 w' := by
  refine ⟨⟨P, cv, xv, _, pv, nv, cels, es, _, bad, cu, nx, cf, nf, BBr.b (cf := cf) L.c L.ar, by omega, by omega, by simp; omega, by omega, by omega, by rw [List.map_append, List.sum_append]; simp; omega⟩, h.fr.trans (L.fr.mono (fun q _ a => ?_))⟩
  rcases a with a | a
  · rw [a]; exact h.b.lo
  · exact (h.b.os.lt q a).1
/-- The box that a region with popN leaves. -/
theorem Bx.ofPop {l ys : List NE} (hI : SIn B P w0 w gb gO cv xv sv pv nv cels (l ++ ys) ss bad cu nx cf nf os) {xv' : Value} {gL : Nat} (hp : Popd B P w w' gb cv xv sv pv nv cels l ys ss bad cu nx cf nf xv' gL) (hE : w.heap.size ≤ gE) (hne : gL ≠ gE) (hx : Arr w' gE e cs) (fr : Fr (fun q => q = gb) w w') : Bx B (fun q => P q ∨ q = gL) w0 w' gb gO gE cv xv' sv pv nv cels l ss bad cu nx cf nf os e cs := by
  have hlow : ∀ q, fpB gb cv xv sv pv nv q → q < w.heap.size := hI.b.low
  have hgO := hI.o.lt
  have hgb := hI.b.ar.lt
  have hlo := hI.b.lo
  refine ⟨(Fr.keep hI.k).trans (fr.mono (fun q _ a => by rw [show q = gb from a]; exact hI.b.lo)), hp.bb, fr.arr hI.ne hI.o, hI.ne, hx, fun q a e => ?_, fun a => ?_, by omega, by omega⟩
  · have : q < w.heap.size := hlow q (by
      rcases a with a | a | a | a
      · exact Or.inl a
      · exact Or.inr (Or.inl a)
      · exact Or.inr (Or.inr (Or.inl (by rw [← hp.ob]; exact a)))
      · exact Or.inr (Or.inr (Or.inr a)))
    omega
  · rcases a with a | a
    · have := (hI.b.sp gE a).2.1; omega
    · exact hne a.symm
end
end Go.Proofs.Qxb6500772a
