/- blastlaw: step: force, takeStmts while a statement is boxed. -/
import Derived.Test.Qxb6500772aGs
namespace Go.Proofs.Qxb6500772a
open Go Go.RowKit Go.Qm
set_option linter.unusedVariables false
set_option linter.unusedSimpArgs false
theorem ELW.cut {P : Nat → Prop} {w : World} : ∀ (rows : List (List Value)) (t : EL), ELW P w t rows → ∃ t', ELW P w t' rows.dropLast
  | [], t, _ => ⟨.nil, rfl⟩
  | [r], t, _ => ⟨.nil, rfl⟩
  | r :: r2 :: rs, .nil, h => by cases h
  | r :: r2 :: rs, .cons f c t2, h => by
    obtain ⟨kv, kr, rs', e, h0, h1, h2, h3⟩ := h
    injection e with e1 e2
    subst e2
    obtain ⟨t', ht'⟩ := ELW.cut (r2 :: rs) t2 h3
    exact ⟨.cons f c t', kv, kr, _, by rw [e1]; rfl, h0, h1, h2, ht'⟩
theorem Rows.cut {P : Nat → Prop} {w : World} {a : Option Addr} {n c sz : Nat} {rows : List (List Value)} (h : Rows P w (.slice a n c) sz rows) : Rows P w (.slice a (n - 1) c) sz rows.dropLast := by
  obtain ⟨a', c', e, h1, h2, h3⟩ := h
  injection e with e1 e2 e3
  subst e1 e2 e3
  refine ⟨a, c, by rw [List.length_dropLast], by rw [List.length_dropLast]; omega, h2, fun i hi => ?_⟩
  have hi2 : i < rows.length := by rw [List.length_dropLast] at hi; omega
  obtain ⟨b, o, r1, r2, r3, r4⟩ := h3 i hi2
  exact ⟨b, o, r1, r2, r3, fun j hj => by rw [r4 j hj, List.getElem_dropLast]⟩
section
variable {B : Nat} {P : Nat → Prop} {w0 w w' : World} {gb gO gE g c k : Nat} {cv xv sv pv nv : Value} {cels : List Cel} {es l : List NE} {ss : List NS} {bad : NE} {cu nx : List (Int × Nat)} {cf : Bool} {nf : Int} {os : List Value} {e : TypeId} {cs : List Value}
theorem BB.force {x : NE} {v : Int} {U : Nat} {ka : Option Addr} {n kc : Nat} (h : BB B P w gb cv (.slice (some ⟨g, 0, none⟩) (l.length + 1) c) sv pv nv cels (l ++ [x]) ss bad cu nx cf nf) (hx : x.kv = .slice ka n kc) (hv : I64 v) (hU : U < 2 ^ 64) (hf : FOut w g (l.length * 7) v U ka n kc w') : ∃ x', BB B P w' gb cv (.slice (some ⟨g, 0, none⟩) (l.length + 1) c) sv pv nv cels (l ++ [x']) ss bad cu nx cf nf ∧ Fr (fun q => q = g) w w' := by
  rcases hf with k | ⟨j, val, hj, hw⟩
  · exact ⟨x, h.keep k, Fr.keep k⟩
  · have F := focE (P := P) (cv := cv) (sv := sv) (pv := pv) (nv := nv) (cels := cels) (ss := ss) (bad := bad) (cu := cu) (nx := nx) (cf := cf) (nf := nf) h.lo
    have hxo := h.he x (by simp)
    have key : ∀ x', NEok P w x' → j < 7 → neC x' = (neC x).set j val → ∃ x', BB B P w' gb cv (.slice (some ⟨g, 0, none⟩) (l.length + 1) c) sv pv nv cels (l ++ [x']) ss bad cu nx cf nf ∧ Fr (fun q => q = g) w w' := by
      intro x' ho hj7 hc
      have f1 : Fr (fun q => q = g) w (w.setCell ⟨g, l.length * 7 + j, none⟩ val) := Fr.setCell (P := fun q => q = g) (p := ⟨g, l.length * 7 + j, none⟩) (Fr.refl _ w) (Or.inl rfl) _
      have hne : gb ≠ g := fun e => OwnS.neA h.oe h.ar (by decide) (by rw [e]; rfl)
      have hs := OwnS.setc h.oe neC_len (i := l.length) (j := j) (by simp) hj7 x' val (by simpa using hc) (g := g) rfl
      have e1 : (l ++ [x]).set l.length x' = l ++ [x'] := by simp
      rw [e1] at hs
      have r := F.upd h.r h.ar f1 (fun q e => Or.inl (by rw [show q = g from e]; rfl)) hs (fun y hy => by
        rcases List.mem_append.1 hy with a | a
        · exact h.he y (List.mem_append_left _ a)
        · rw [List.mem_singleton.1 a]; exact ho) (fun q a => Or.inl a)
      have b := BBr.b (cf := cf) r (f1.arr hne h.ar)
      rcases hw with rfl | rfl
      · exact ⟨x', b, f1⟩
      · exact ⟨x', b.keep (Keep.refl _).drew, f1.trans (Fr.keep (Keep.refl _).drew)⟩
    obtain ⟨⟨fk, fw, fo, fv, fc, fl⟩, kv, t, kr⟩ := x
    simp only at hx
    subst hx
    obtain ⟨hE, hR, hT⟩ := hxo
    rcases hj with ⟨j6, j3, rfl⟩ | ⟨rfl, rfl⟩ | ⟨rfl, hn, rfl⟩
    · have : j = 0 ∨ j = 1 ∨ j = 2 ∨ j = 4 ∨ j = 5 := by omega
      rcases this with rfl | rfl | rfl | rfl | rfl
      · exact key ⟨⟨v, fw, fo, fv, fc, fl⟩, _, t, kr⟩ ⟨⟨hv, hE.w, hE.o, hE.v, hE.c, hE.l⟩, hR, hT⟩ (by decide) rfl
      · exact key ⟨⟨fk, v, fo, fv, fc, fl⟩, _, t, kr⟩ ⟨⟨hE.k, hv, hE.o, hE.v, hE.c, hE.l⟩, hR, hT⟩ (by decide) rfl
      · exact key ⟨⟨fk, fw, v, fv, fc, fl⟩, _, t, kr⟩ ⟨⟨hE.k, hE.w, hv, hE.v, hE.c, hE.l⟩, hR, hT⟩ (by decide) rfl
      · exact key ⟨⟨fk, fw, fo, fv, v, fl⟩, _, t, kr⟩ ⟨⟨hE.k, hE.w, hE.o, hE.v, hv, hE.l⟩, hR, hT⟩ (by decide) rfl
      · exact key ⟨⟨fk, fw, fo, fv, fc, v⟩, _, t, kr⟩ ⟨⟨hE.k, hE.w, hE.o, hE.v, hE.c, hv⟩, hR, hT⟩ (by decide) rfl
    · exact key ⟨⟨fk, fw, fo, U, fc, fl⟩, _, t, kr⟩ ⟨⟨hE.k, hE.w, hE.o, hU, hE.c, hE.l⟩, hR, hT⟩ (by decide) rfl
    · obtain ⟨t', ht'⟩ := ELW.cut kr t hT
      exact key ⟨⟨fk, fw, fo, fv, fc, fl⟩, .slice ka (n - 1) kc, t', kr.dropLast⟩ ⟨hE, hR.cut, ht'⟩ (by decide) rfl
theorem SIn.drewN (h : SIn B P w0 w gb gO cv xv sv pv nv cels es ss bad cu nx cf nf os) (n : Nat) : SIn B P w0 (w.drewN n) gb gO cv xv sv pv nv cels es ss bad cu nx cf nf os :=
  ⟨h.k.drewN n, h.b.keep ((Keep.refl w).drewN n), h.o.keep ((Keep.refl w).drewN n), h.ge, h.b0⟩
/-- takeStmts while a box stands. -/
theorem Bx.took {s1 s2 : List NS} (h : Bx B P w0 w gb gO gE cv xv sv pv nv cels es (s1 ++ s2) bad cu nx cf nf os e cs) {en : Ending} (ht : Took B P w gb cv xv sv pv nv cels es s1 s2 bad cu nx cf nf en w') : ∃ sv' ua uc, en = .returned (.slice ua s2.length uc) ∧ Bx B (fun q => P q ∨ (Value.slice ua s2.length uc).ownBlock = some q) w0 w' gb gO gE cv xv sv' pv nv cels es s1 bad cu nx cf nf os e cs ∧ Rows (fun q => P q ∨ (Value.slice ua s2.length uc).ownBlock = some q) w' (.slice ua s2.length uc) 8 (s2.map nsC) ∧ SLW (fun q => P q ∨ (Value.slice ua s2.length uc).ownBlock = some q) w' (mkS s2) (s2.map nsC) ∧ KP P w w' := by
  obtain ⟨sv', ua, uc, he, ob, nw, fr, bb, rr, sl⟩ := ht
  have hgE := h.x.lt
  refine ⟨sv', ua, uc, he, ⟨h.fr.trans (fr.mono (fun q _ a => by rw [show q = gb from a]; exact h.b.lo)), bb, fr.arr h.og h.o, h.og, fr.arr (fun e => h.xg gb (Or.inl rfl) (show gE = gb from e).symm) h.x, fun q a => h.xg q ?_, fun a => ?_, h.xl, h.oe⟩, rr, sl, KP.fr fr (fun q a e => (h.b.sp q a).2.2.1 e)⟩
  · rcases a with a | a | a | a | a
    · exact Or.inl a
    · exact Or.inr (Or.inl a)
    · exact Or.inr (Or.inr (Or.inl a))
    · exact Or.inr (Or.inr (Or.inr (Or.inl (by rw [← ob]; exact a))))
    · exact Or.inr (Or.inr (Or.inr (Or.inr a)))
  · rcases a with a | a
    · exact h.xp a
    · have := nw gE a; omega
end
end Go.Proofs.Qxb6500772a
