/- blast: what a statement leaves. -/
import Derived.Test.Qxb6500772aDn
import Derived.Test.Qxb6500772aXb
namespace Go.Proofs.Qxb6500772a
open Go.RowKit Go.Qm
set_option linter.unusedVariables false
set_option linter.unusedSimpArgs false
def pF (gF gW q : Nat) : Prop := q = gF ∨ q = gW
/-- What a call that runs statements leaves. -/
def RS (B : Nat) (X P : Nat → Prop) (gB : Nat) (cv : Value) (gc : Nat) (gv : Value) (w : World) (G : List Gate) (n K gF oF gW : Nat) (ty : TypeId) (cs : List Value) (cw : List Int) (S' : SS) (e : Ending) (w' : World) : Prop :=
  ∃ gv' G' vs ls fb, e = .returned (.tuple #[]) ∧ SX (pF gF gW) B X P w gB cv gc gv G n K w' gv' G' ∧ FRM X gc gv' w' G' gF oF gW ty cs cw S' vs ls fb
theorem RS.congr {B : Nat} {X P : Nat → Prop} {gB : Nat} {cv : Value} {gc : Nat} {gv : Value} {w : World} {G : List Gate} {n K gF oF gW : Nat} {ty : TypeId} {cs : List Value} {cw : List Int} {S S' : SS} {e : Ending} {w' : World} (h : RS B X P gB cv gc gv w G n K gF oF gW ty cs cw S e w') (hs : ∀ inp, S inp = S' inp) : RS B X P gB cv gc gv w G n K gF oF gW ty cs cw S' e w' := by
  have : S = S' := funext hs
  rw [← this]; exact h
/-- The contract of a call that runs one statement. -/
def OC (fn : FuncId) (P : Nat → Prop) (cels : List Cel) (f : SF) (ex : EL) (th el : SL) : Prop :=
  ∀ (B : Nat) (X : Nat → Prop) (w : World) (gB : Nat) (cv : Value) (gc : Nat) (gv : Value) (G : List Gate) (n gF oF gW : Nat) (ty : TypeId) (cs : List Value) (S : SS) (vs : List Value) (ls : List (List Nat)) (fb : Nat) (ev tv lv : Value) (er tr lr : List (List Value)),
    BS B X P w gB cv gc gv G n → CsW P w cv cels → FRM X gc gv w G gF oF gW ty cs (cels.map (·.w)) S vs ls fb → SFr f → Rows P w ev 7 er → ELW P w ex er → Rows P w tv 8 tr → SLW P w th tr → Rows P w lv 8 lr → SLW P w el lr → wtL (cels.map (·.w)) ex → wtS1 (cels.map (·.w)) f ex.ws (wtS (cels.map (·.w)) th) (wtS (cels.map (·.w)) el) th.len el.len → G.length + 131072 * nY (f, ex, th, el) ≤ 580000000 →
    Calls Try.prog fn #[.pointer (some ⟨gB, 0, none⟩), sfA f ev tv lv, .pointer (some ⟨gF, oF, none⟩)] w fun e w' => RS B X P gB cv gc gv w G n (131072 * nY (f, ex, th, el)) gF oF gW ty cs (cels.map (·.w)) (fun inp => exX (cels.map (·.w)) (S inp) (f, ex, th, el)) e w'
/-- The contract of stmts. -/
def MC (P : Nat → Prop) (cels : List Cel) (t : SL) : Prop :=
  ∀ (B : Nat) (X : Nat → Prop) (w : World) (gB : Nat) (cv : Value) (gc : Nat) (gv : Value) (G : List Gate) (n gF oF gW : Nat) (ty : TypeId) (cs : List Value) (S : SS) (vs : List Value) (ls : List (List Nat)) (fb : Nat) (v : Value) (rows : List (List Value)),
    BS B X P w gB cv gc gv G n → CsW P w cv cels → FRM X gc gv w G gF oF gW ty cs (cels.map (·.w)) S vs ls fb → Rows P w v 8 rows → SLW P w t rows → wtS (cels.map (·.w)) t → G.length + 131072 * nS t ≤ 580000000 →
    Calls Try.prog 28 #[.pointer (some ⟨gB, 0, none⟩), v, .pointer (some ⟨gF, oF, none⟩)] w fun e w' => RS B X P gB cv gc gv w G n (131072 * nS t) gF oF gW ty cs (cels.map (·.w)) (fun inp => exL (cels.map (·.w)) t (S inp)) e w'
theorem nY_pos (f : SF) (ex : EL) (th el : SL) : 1 + nE ex ≤ nY (f, ex, th, el) := by
  unfold nY nS1
  simp only
  omega
section
variable {B : Nat} {X P : Nat → Prop} {w w' : World} {gB : Nat} {cv : Value} {gc : Nat} {gv gv' : Value} {G G' : List Gate} {n K gF oF gW : Nat} {ty : TypeId} {cs : List Value} {cw : List Int} {S : SS} {vs : List Value} {ls : List (List Nat)} {fb : Nat}
/-- A word is written: the step. -/
theorem SX.put {w0 : World} {gv0 : Value} {G0 : List Gate} (h : SX (pF gF gW) B X P w0 gB cv gc gv0 G0 n K w gv G) (hF : FRM X gc gv w G gF oF gW ty cs cw S vs ls fb) (i : Nat) (v : Value) : SX (pF gF gW) B X P w0 gB cv gc gv0 G0 n K (w.setCell ⟨gW, i, none⟩ v) gv G := SX.set (Y := pF gF gW) h (Or.inr rfl) hF.xw v
theorem SX.flt {w0 : World} {gv0 : Value} {G0 : List Gate} (h : SX (pF gF gW) B X P w0 gB cv gc gv0 G0 n K w gv G) (hF : FRM X gc gv w G gF oF gW ty cs cw S vs ls fb) (v : Value) : SX (pF gF gW) B X P w0 gB cv gc gv0 G0 n K (w.setCell ⟨gF, oF + 1, none⟩ v) gv G := SX.set (Y := pF gF gW) h (Or.inl rfl) hF.xf v
theorem pFX (hF : FRM X gc gv w G gF oF gW ty cs cw S vs ls fb) : ∀ q, pF gF gW q → X q := fun q a => by
  rcases a with a | a
  · rw [a]; exact hF.xf
  · rw [a]; exact hF.xw
end
theorem WO.at {fp : Nat → Prop} {w : World} {b o m c : Nat} {l : List Nat} (h : WO fp w (.slice (some ⟨b, o, none⟩) m c) l) {i : Nat} (hi : i < l.length) : w.cell? ⟨b, o + i, none⟩ = some (.int .i64 (l[i] : Nat)) := by
  obtain ⟨b', o', e, hc⟩ := h.cell hi
  obtain ⟨rfl, rfl⟩ : b = b' ∧ o = o' := by simpa using e
  exact hc
theorem WO.at0 {fp : Nat → Prop} {w : World} {b o m c : Nat} {l : List Nat} (h : WO fp w (.slice (some ⟨b, o, none⟩) m c) l) {x : Nat} (hi : l[0]? = some x) : w.cell? ⟨b, o, none⟩ = some (.int .i64 (x : Nat)) := by
  obtain ⟨h1, h2⟩ := List.getElem?_eq_some_iff.1 hi
  have := h.at h1
  rw [h2] at this
  exact this
theorem WO.blk {fp : Nat → Prop} {w : World} {a : Option Addr} {m c : Nat} {l : List Nat} (h : WO fp w (.slice a m c) l) (hl : 0 < l.length) : ∃ b o, a = some ⟨b, o, none⟩ := by
  obtain ⟨b', o', e, hc⟩ := h.cell hl
  exact ⟨b', o', e⟩
/-- The first bit of a word of one bit or more. -/
theorem Wv.first {G : List Gate} {l : List Nat} {wd : Nat} {f : WF} (h : Wv G l wd f) (h1 : 1 ≤ wd) : ∃ x, l[0]? = some x ∧ Bt G x (fun inp => (f inp).testBit 0) := by
  have hl := h.len
  exact ⟨l[0]'(by omega), List.getElem?_eq_getElem (by omega), h.bit 0 (by omega)⟩
theorem bitOf {n : Nat} (h : n < 2) : n.testBit 0 = decide (n = 1) := by
  rcases (show n = 0 ∨ n = 1 by omega) with rfl | rfl <;> rfl
end Go.Proofs.Qxb6500772a
