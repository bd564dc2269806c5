/- blast: expr: the contract. -/
import Derived.Test.Qxb6500772aDf
import Derived.Test.Qxb6500772aUb
namespace Go.Proofs.Qxb6500772a
open Go.RowKit Go.Qm
set_option linter.unusedVariables false
set_option linter.unusedSimpArgs false
/-- The contract of expr. -/
def XC (P : Nat → Prop) (f : EF) (t : EL) : Prop :=
  ∀ (B : Nat) (X : Nat → Prop) (w : World) (gB : Nat) (cv : Value) (gc : Nat) (gv : Value) (G : List Gate) (n gF oF gW : Nat) (ty : TypeId) (cs : List Value) (cw : List Int) (S : SS) (vs : List Value) (ls : List (List Nat)) (fb : Nat) (kx : Value) (rows : List (List Value)),
    BS B X P w gB cv gc gv G n → FRM X gc gv w G gF oF gW ty cs cw S vs ls fb → WsOK cw → cw.length ≤ 1000000 → EFr f → Rows P w kx 7 rows → ELW P w t rows → wtL cw t → wtOne cw f t.ws → G.length + 1024 * nX (f, t) ≤ 600000000 →
    Calls Try.prog 33 #[.pointer (some ⟨gB, 0, none⟩), efA f kx, .pointer (some ⟨gF, oF, none⟩)] w fun e w' => RVB B X P gB cv gc gv w G n (1024 * nX (f, t)) f.w.toNat (fun inp => (evOne f (evL t (S inp)) t.ws (S inp)).1) (fun inp => (evOne f (evL t (S inp)) t.ws (S inp)).2) e w'
theorem nX_pos (f : EF) (t : EL) : 1 + nE t ≤ nX (f, t) := by
  unfold nX nX1
  split <;> simp only <;> omega
theorem wt_w {cw : List Int} {f : EF} {ks : List Int} (h : wtOne cw f ks) : 1 ≤ f.w ∧ f.w ≤ 64 := h.1
/-- One step of a blaster, packed: all that lasts. -/
structure ST (B : Nat) (X P : Nat → Prop) (w : World) (gB : Nat) (cv : Value) (gc : Nat) (gv : Value) (G : List Gate) (n K : Nat) (w' : World) (gv' : Value) (G' : List Gate) : Prop where
  bs : BS B X P w' gB cv gc gv' G' n
  st : Stp (fpC gc gv) (fpC gc gv') w w'
  ex : Ext K G G'
section
variable {B : Nat} {X P : Nat → Prop} {w w1 w' : World} {gB : Nat} {cv : Value} {gc : Nat} {gv gv1 gv' : Value} {G G1 G' : List Gate} {n K K' : Nat}
theorem ST.refl (h : BS B X P w gB cv gc gv G n) : ST B X P w gB cv gc gv G n 0 w gv G := ⟨h, Stp.keep (Keep.refl w), Ext.refl h.wf⟩
theorem ST.keep (h : BS B X P w gB cv gc gv G n) (k : Keep w w') : ST B X P w gB cv gc gv G n 0 w' gv G := ⟨h.keep k, Stp.keep k, Ext.refl h.wf⟩
theorem ST.trans (h : ST B X P w gB cv gc gv G n K w1 gv1 G1) (k : ST B X P w1 gB cv gc gv1 G1 n K' w' gv' G') : ST B X P w gB cv gc gv G n (K + K') w' gv' G' := ⟨k.bs, h.st.trans k.st, h.ex.trans k.ex⟩
theorem ST.mono (h : ST B X P w gB cv gc gv G n K w' gv' G') (hk : K ≤ K') : ST B X P w gB cv gc gv G n K' w' gv' G' := ⟨h.bs, h.st, h.ex.mono hk⟩
theorem ST.drew (h : ST B X P w gB cv gc gv G n K w' gv' G') : ST B X P w gB cv gc gv G n K w'.drew gv' G' := (h.trans (ST.keep h.bs (Keep.refl w').drew)).mono (by omega)
theorem ST.alloc (h : ST B X P w gB cv gc gv G n K w' gv' G') (o : Obj) : ST B X P w gB cv gc gv G n K (w'.alloc o) gv' G' := (h.trans (ST.keep h.bs ((Keep.refl w').alloc o))).mono (by omega)
theorem ST.kp (h : ST B X P w gB cv gc gv G n K w' gv' G') (b : BS B X P w gB cv gc gv G n) : KP P w w' := b.kp0 h.st
theorem ST.wo (h : ST B X P w gB cv gc gv G n K w' gv' G') {v : Value} {l : List Nat} (a : WO (fpX gc gv X) w v l) : WO (fpX gc gv' X) w' v l := a.stepX h.st
theorem ST.wv (h : ST B X P w gB cv gc gv G n K w' gv' G') {l : List Nat} {wd : Nat} {f : WF} (a : Wv G l wd f) : Wv G' l wd f := a.ext h.ex.pre
theorem ST.bt (h : ST B X P w gB cv gc gv G n K w' gv' G') {b : Nat} {f : BF} (a : Bt G b f) : Bt G' b f := a.ext h.ex.pre
theorem ST.frm (h : ST B X P w gB cv gc gv G n K w' gv' G') (b : BS B X P w gB cv gc gv G n) {gF oF gW : Nat} {ty : TypeId} {cs : List Value} {cw : List Int} {S : SS} {vs : List Value} {ls : List (List Nat)} {fb : Nat} (a : FRM X gc gv w G gF oF gW ty cs cw S vs ls fb) : FRM X gc gv' w' G' gF oF gW ty cs cw S vs ls fb := a.step b h.st h.ex
/-- A block of the call's own lasts. -/
theorem ST.own (h : ST B X P w gB cv gc gv G n K w' gv' G') (b : BS B X P w gB cv gc gv G n) {g : Nat} {t : TypeId} {cs : List Value} (a : Arr w g t cs) (hg : ¬ fpC gc gv g) : Arr w' g t cs := h.st.1.arr hg a
theorem ST.len (h : ST B X P w gB cv gc gv G n K w' gv' G') : G'.length ≤ G.length + K := h.ex.len
end
end Go.Proofs.Qxb6500772a
