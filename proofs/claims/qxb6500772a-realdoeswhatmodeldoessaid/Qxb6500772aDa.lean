/- blast: a blaster and its frames in memory: the bundle of the contracts. -/
import Derived.Test.Qxb6500772aCi
import Derived.Test.Qxb6500772aCf
import Derived.Test.Qxb6500772aCh
import Derived.Test.Qxb6500772aTc
import Derived.Test.Qxb6500772aUa
import Derived.Test.Qxb6500772aYa
namespace Go.Proofs.Qxb6500772a
open Go.RowKit Go.Qm
set_option linter.unusedVariables false
set_option linter.unusedSimpArgs false
/-- A step: the circuit's blocks, those of Y and new ones turn. -/
structure SY (Y : Nat → Prop) (gc : Nat) (gv gv' : Value) (w w' : World) : Prop where
  fr : Fr (fun q => fpC gc gv q ∨ Y q) w w'
  nw : ∀ q, fpC gc gv' q → fpC gc gv q ∨ w.heap.size ≤ q
section
variable {Y Z : Nat → Prop} {gc : Nat} {gv gv1 gv' : Value} {w w1 w' : World}
theorem SY.of (s : Stp (fpC gc gv) (fpC gc gv') w w') : SY Y gc gv gv' w w' := ⟨s.1.mono (fun q _ a => Or.inl a), s.2⟩
theorem SY.keep (k : Keep w w') : SY Y gc gv gv w w' := ⟨Fr.keep k, fun q a => Or.inl a⟩
theorem SY.trans (h : SY Y gc gv gv1 w w1) (k : SY Y gc gv1 gv' w1 w') : SY Y gc gv gv' w w' := by
  refine ⟨⟨k.fr.os.trans h.fr.os, k.fr.tape.trans h.fr.tape, k.fr.output.trans h.fr.output, Nat.le_trans h.fr.size k.fr.size, fun q hq hn => ?_⟩, fun q hq => ?_⟩
  · rw [k.fr.block q (Nat.lt_of_lt_of_le hq h.fr.size) (fun a => by
      rcases a with a | a
      · rcases h.nw q a with b | b
        · exact hn (Or.inl b)
        · omega
      · exact hn (Or.inr a))]
    exact h.fr.block q hq hn
  · rcases k.nw q hq with a | a
    · exact h.nw q a
    · exact Or.inr (Nat.le_trans h.fr.size a)
theorem SY.mono (h : SY Y gc gv gv' w w') (hz : ∀ q, q < w.heap.size → Y q → Z q) : SY Z gc gv gv' w w' := ⟨h.fr.mono (fun q hq a => a.imp id (hz q hq)), h.nw⟩
theorem SY.set (h : SY Y gc gv gv' w w') {b i : Nat} (hb : Y b ∨ w.heap.size ≤ b) (u : Value) : SY Y gc gv gv' w (w'.setCell ⟨b, i, none⟩ u) := ⟨h.fr.setCell (p := ⟨b, i, none⟩) (hb.imp Or.inr id) u, h.nw⟩
theorem SY.size (h : SY Y gc gv gv' w w') : w.heap.size ≤ w'.heap.size := h.fr.size
end
/-- What the calls of a blaster lean on. -/
structure BS (B : Nat) (X P : Nat → Prop) (w : World) (gB : Nat) (cv : Value) (gc : Nat) (gv : Value) (G : List Gate) (n : Nat) : Prop where
  cc : CC B X w gc gv G n
  wf : WFG G
  hx : ∀ q, X q → q < w.heap.size ∧ ¬ fpC gc gv q ∧ ¬ P q
  hp : ∀ q, P q → q < w.heap.size ∧ ¬ fpC gc gv q
  bl : Arr w gB 87 [.pointer (some ⟨gc, 0, none⟩), cv]
  pb : P gB
section
variable {B : Nat} {X P Y : Nat → Prop} {w w' : World} {gB : Nat} {cv : Value} {gc : Nat} {gv gv' : Value} {G G' : List Gate} {n k : Nat}
theorem BS.hX (h : BS B X P w gB cv gc gv G n) : ∀ q, X q → q < w.heap.size := fun q a => (h.hx q a).1
theorem BS.stepY (h : BS B X P w gB cv gc gv G n) (hY : ∀ q, Y q → X q) (c : CC B X w' gc gv' G' n) (s : SY Y gc gv gv' w w') (e : Ext k G G') : BS B X P w' gB cv gc gv' G' n := by
  refine ⟨c, e.wf, fun q a => ⟨Nat.lt_of_lt_of_le (h.hx q a).1 s.size, fun b => ?_, (h.hx q a).2.2⟩, fun q a => ⟨Nat.lt_of_lt_of_le (h.hp q a).1 s.size, fun b => ?_⟩, s.fr.arr (fun a => ?_) h.bl, h.pb⟩
  · rcases s.nw q b with d | d
    · exact (h.hx q a).2.1 d
    · have := (h.hx q a).1; omega
  · rcases s.nw q b with d | d
    · exact (h.hp q a).2 d
    · have := (h.hp q a).1; omega
  · rcases a with a | a
    · exact (h.hp gB h.pb).2 a
    · exact (h.hx gB (hY gB a)).2.2 h.pb
theorem BS.step (h : BS B X P w gB cv gc gv G n) (c : CC B X w' gc gv' G' n) (s : Stp (fpC gc gv) (fpC gc gv') w w') (e : Ext k G G') : BS B X P w' gB cv gc gv' G' n :=
  h.stepY (Y := fun _ => False) (fun _ a => a.elim) c (SY.of s) e
theorem BS.keep (h : BS B X P w gB cv gc gv G n) (k : Keep w w') : BS B X P w' gB cv gc gv G n := h.step (h.cc.keep k) (Stp.keep k) (Ext.refl h.wf)
theorem BS.kp (h : BS B X P w gB cv gc gv G n) (hY : ∀ q, Y q → X q) (s : SY Y gc gv gv' w w') : KP P w w' := KP.fr s.fr (fun q a b => by
    rcases b with b | b
    · exact (h.hp q a).2 b
    · exact (h.hx q (hY q b)).2.2 a)
theorem BS.kp0 (h : BS B X P w gB cv gc gv G n) (s : Stp (fpC gc gv) (fpC gc gv') w w') : KP P w w' := h.kp (Y := fun _ => False) (fun _ a => a.elim) (SY.of s)
theorem BS.cells (h : BS B X P w gB cv gc gv G n) : w.cell? ⟨gB, 0, none⟩ = some (.pointer (some ⟨gc, 0, none⟩)) ∧ w.cell? ⟨gB, 1, none⟩ = some cv := ⟨h.bl.cell 0, h.bl.cell 1⟩
/-- One more block that may be written: a new one. -/
theorem BS.more (h : BS B X P w gB cv gc gv G n) (k : Keep w w') {Z : Nat → Prop} (hZ : ∀ q, Z q → X q ∨ (w.heap.size ≤ q ∧ q < w'.heap.size)) : BS B Z P w' gB cv gc gv G n := by
  have h2 := h.keep k
  refine ⟨(h.cc.top.keep k).weak (fun q a => (hZ q a).imp id And.left), h2.wf, fun q a => ?_, h2.hp, h2.bl, h2.pb⟩
  rcases hZ q a with b | b
  · exact h2.hx q b
  · refine ⟨b.2, fun d => ?_, fun d => ?_⟩
    · have := (h.cc.flt d).2; omega
    · have := (h.hp q d).1; omega
theorem BS.less (h : BS B X P w gB cv gc gv G n) {Z : Nat → Prop} (hZ : ∀ q, Z q → X q) : BS B Z P w gB cv gc gv G n := ⟨h.cc.weak hZ, h.wf, fun q a => h.hx q (hZ q a), h.hp, h.bl, h.pb⟩
/-- A block of X is written. -/
theorem BS.set (h : BS B X P w gB cv gc gv G n) {b i : Nat} (hb : X b) (u : Value) : BS B X P (w.setCell ⟨b, i, none⟩ u) gB cv gc gv G n := by
  have f : Fr (fun q => q = b) w (w.setCell ⟨b, i, none⟩ u) := Fr.setCell (p := ⟨b, i, none⟩) (Fr.refl (fun q => q = b) w) (Or.inl rfl) u
  exact h.stepY (Y := fun q => q = b) (fun q a => a ▸ hb) (h.cc.fr f (fun q a => ⟨a ▸ (h.hx b hb).2.1, a ▸ hb⟩)) ⟨f.mono (fun q _ a => Or.inr a), fun q a => Or.inl a⟩ (Ext.refl h.wf)
end
/-- A word outside X and the circuit's blocks lasts. -/
theorem WO.stepY {Y X : Nat → Prop} {gc : Nat} {gv gv' : Value} {w w' : World} {v : Value} {l : List Nat} (h : WO (fpX gc gv X) w v l) (hY : ∀ q, Y q → X q) (s : SY Y gc gv gv' w w') : WO (fpX gc gv' X) w' v l :=
  ⟨h.wd.fr s.fr (fun q hq => ⟨fun a => (h.nb q hq).1 (a.imp id (hY q)), (h.nb q hq).2⟩), fun q hq => ⟨fun a => by
      rcases a with a | a
      · rcases s.nw q a with e | e
        · exact (h.nb q hq).1 (Or.inl e)
        · have := (h.nb q hq).2; omega
      · exact (h.nb q hq).1 (Or.inr a), Nat.lt_of_lt_of_le (h.nb q hq).2 s.size⟩⟩
theorem WO.moreX {X Z : Nat → Prop} {gc : Nat} {gv : Value} {w w' : World} {v : Value} {l : List Nat} (h : WO (fpX gc gv X) w v l) (k : Keep w w') (hZ : ∀ q, Z q → X q ∨ w.heap.size ≤ q) : WO (fpX gc gv Z) w' v l :=
  ⟨h.wd.fr (Fr.keep (P := fun _ => False) k) (fun q hq => ⟨id, (h.nb q hq).2⟩), fun q hq => ⟨fun a => by
      rcases a with a | a
      · exact (h.nb q hq).1 (Or.inl a)
      · rcases hZ q a with b | b
        · exact (h.nb q hq).1 (Or.inr b)
        · have := (h.nb q hq).2; omega, Nat.lt_of_lt_of_le (h.nb q hq).2 k.size⟩⟩
theorem WO.lessX {X Z : Nat → Prop} {gc : Nat} {gv : Value} {w : World} {v : Value} {l : List Nat} (h : WO (fpX gc gv X) w v l) (hZ : ∀ q, Z q → X q) : WO (fpX gc gv Z) w v l := h.mono (fun q a => a.imp id (hZ q))
abbrev SS := (Nat → Bool) → PS
/-- A frame in memory: the struct lies at (gF, oF), its words in block gW; it is the state S. -/
structure FRM (X : Nat → Prop) (gc : Nat) (gv : Value) (w : World) (G : List Gate) (gF oF gW : Nat) (ty : TypeId) (cs : List Value) (cw : List Int) (S : SS) (vs : List Value) (ls : List (List Nat)) (fb : Nat) : Prop where
  af : Arr w gF ty (cs.set (oF + 1) (.int .i64 (fb : Nat)))
  hs : cs[oF]? = some (.slice (some ⟨gW, 0, none⟩) cw.length cw.length)
  hl : oF + 1 < cs.length
  aw : Arr w gW 96 vs
  lv : vs.length = cw.length
  ll : ls.length = cw.length
  xf : X gF
  xw : X gW
  ne : gF ≠ gW
  wo : ∀ i (h1 : i < vs.length) (h2 : i < ls.length), WO (fpX gc gv X) w vs[i] ls[i]
  wv : ∀ i (h : i < ls.length), Wv G ls[i] (cw.getD i 0).toNat (fun inp => (S inp).at i)
  bf : Bt G fb (fun inp => (S inp).fault)
  sl : ∀ inp, (S inp).cells.length = cw.length
section
variable {B : Nat} {X P Y : Nat → Prop} {w w' : World} {gB : Nat} {cv : Value} {gc : Nat} {gv gv' : Value} {G G' : List Gate} {n k : Nat} {gF oF gW : Nat} {ty : TypeId} {cs : List Value} {cw : List Int} {S : SS} {vs : List Value} {ls : List (List Nat)} {fb : Nat}
theorem FRM.ok (h : FRM X gc gv w G gF oF gW ty cs cw S vs ls fb) (inp : Nat → Bool) : StOK cw (S inp) := ⟨h.sl inp, fun i hi => (h.wv i (by rw [h.ll]; exact hi)).lt inp⟩
/-- A step that writes other blocks. -/
theorem FRM.stepY (h : FRM X gc gv w G gF oF gW ty cs cw S vs ls fb) (b : BS B X P w gB cv gc gv G n) (hY : ∀ q, Y q → X q ∧ q ≠ gF ∧ q ≠ gW) (s : SY Y gc gv gv' w w') (e : Ext k G G') : FRM X gc gv' w' G' gF oF gW ty cs cw S vs ls fb := by
  refine ⟨s.fr.arr (fun a => ?_) h.af, h.hs, h.hl, s.fr.arr (fun a => ?_) h.aw, h.lv, h.ll, h.xf, h.xw, h.ne, fun i h1 h2 => (h.wo i h1 h2).stepY (fun q a => (hY q a).1) s, fun i hi => (h.wv i hi).ext e.pre, h.bf.ext e.pre, h.sl⟩
  · rcases a with a | a
    · exact (b.hx gF h.xf).2.1 a
    · exact (hY gF a).2.1 rfl
  · rcases a with a | a
    · exact (b.hx gW h.xw).2.1 a
    · exact (hY gW a).2.2 rfl
theorem FRM.step (h : FRM X gc gv w G gF oF gW ty cs cw S vs ls fb) (b : BS B X P w gB cv gc gv G n) (s : Stp (fpC gc gv) (fpC gc gv') w w') (e : Ext k G G') : FRM X gc gv' w' G' gF oF gW ty cs cw S vs ls fb :=
  h.stepY b (Y := fun _ => False) (fun _ a => a.elim) (SY.of s) e
theorem FRM.keep (h : FRM X gc gv w G gF oF gW ty cs cw S vs ls fb) (k : Keep w w') : FRM X gc gv w' G gF oF gW ty cs cw S vs ls fb :=
  ⟨h.af.keep k, h.hs, h.hl, h.aw.keep k, h.lv, h.ll, h.xf, h.xw, h.ne, fun i h1 h2 => (h.wo i h1 h2).stepX (Stp.keep k), h.wv, h.bf, h.sl⟩
theorem FRM.more (h : FRM X gc gv w G gF oF gW ty cs cw S vs ls fb) (k : Keep w w') {Z : Nat → Prop} (hX : ∀ q, X q → Z q) (hZ : ∀ q, Z q → X q ∨ w.heap.size ≤ q) : FRM Z gc gv w' G gF oF gW ty cs cw S vs ls fb :=
  ⟨h.af.keep k, h.hs, h.hl, h.aw.keep k, h.lv, h.ll, hX _ h.xf, hX _ h.xw, h.ne, fun i h1 h2 => (h.wo i h1 h2).moreX k hZ, h.wv, h.bf, h.sl⟩
theorem FRM.less (h : FRM X gc gv w G gF oF gW ty cs cw S vs ls fb) {Z : Nat → Prop} (hZ : ∀ q, Z q → X q) (h1 : Z gF) (h2 : Z gW) : FRM Z gc gv w G gF oF gW ty cs cw S vs ls fb :=
  ⟨h.af, h.hs, h.hl, h.aw, h.lv, h.ll, h1, h2, h.ne, fun i a b => (h.wo i a b).lessX hZ, h.wv, h.bf, h.sl⟩
/-- What is read of it. -/
theorem FRM.cells (h : FRM X gc gv w G gF oF gW ty cs cw S vs ls fb) : w.cell? ⟨gF, oF, none⟩ = some (.slice (some ⟨gW, 0, none⟩) cw.length cw.length) ∧ w.cell? ⟨gF, oF + 1, none⟩ = some (.int .i64 (fb : Nat)) ∧ w.frozen? ⟨gF, oF + 1, none⟩ = false := by
  have h1 := h.hl
  refine ⟨?_, ?_, h.af.frozen _⟩
  · rw [h.af.cell, List.getElem?_set_ne (by omega)]; exact h.hs
  · rw [h.af.cell]; simp [h1]
theorem FRM.word (h : FRM X gc gv w G gF oF gW ty cs cw S vs ls fb) {i : Nat} (hi : i < cw.length) : ∃ v l, w.cell? ⟨gW, i, none⟩ = some v ∧ w.frozen? ⟨gW, i, none⟩ = false ∧ WO (fpX gc gv X) w v l ∧ Wv G l (cw.getD i 0).toNat (fun inp => (S inp).at i) := by
  have h1 : i < vs.length := by rw [h.lv]; exact hi
  have h2 : i < ls.length := by rw [h.ll]; exact hi
  exact ⟨vs[i], ls[i], by rw [h.aw.cell]; simp [h1], h.aw.frozen _, h.wo i h1 h2, h.wv i h2⟩
/-- The fault flag is written. -/
theorem FRM.flt (h : FRM X gc gv w G gF oF gW ty cs cw S vs ls fb) (b : BS B X P w gB cv gc gv G n) {fb' : Nat} {F : BF} (hb : Bt G fb' F) : FRM X gc gv (w.setCell ⟨gF, oF + 1, none⟩ (.int .i64 (fb' : Nat))) G gF oF gW ty cs cw (fun inp => ⟨(S inp).cells, F inp⟩) vs ls fb' := by
  have f : Fr (fun q => q = gF) w (w.setCell ⟨gF, oF + 1, none⟩ (.int .i64 (fb' : Nat))) := Fr.setCell (p := ⟨gF, oF + 1, none⟩) (Fr.refl (fun q => q = gF) w) (Or.inl rfl) _
  have s : SY (fun q => q = gF) gc gv gv w (w.setCell ⟨gF, oF + 1, none⟩ (.int .i64 (fb' : Nat))) := ⟨f.mono (fun q _ a => Or.inr a), fun q a => Or.inl a⟩
  refine ⟨by simpa using h.af.set (oF + 1) (.int .i64 (fb' : Nat)), h.hs, h.hl, f.arr (fun e => h.ne e.symm) h.aw, h.lv, h.ll, h.xf, h.xw, h.ne, fun i h1 h2 => (h.wo i h1 h2).stepY (Y := fun q => q = gF) (fun q a => by rw [show q = gF from a]; exact h.xf) s, fun i hi => h.wv i hi, hb, h.sl⟩
/-- A word is written. -/
theorem FRM.put (h : FRM X gc gv w G gF oF gW ty cs cw S vs ls fb) {i : Nat} (hi : i < cw.length) {v : Value} {l : List Nat} {F : WF} (hv : WO (fpX gc gv X) w v l) (hl : Wv G l (cw.getD i 0).toNat F) : FRM X gc gv (w.setCell ⟨gW, i, none⟩ v) G gF oF gW ty cs cw (fun inp => (S inp).put i (F inp)) (vs.set i v) (ls.set i l) fb := by
  have f : Fr (fun q => q = gW) w (w.setCell ⟨gW, i, none⟩ v) := Fr.setCell (p := ⟨gW, i, none⟩) (Fr.refl (fun q => q = gW) w) (Or.inl rfl) _
  have s : SY (fun q => q = gW) gc gv gv w (w.setCell ⟨gW, i, none⟩ v) := ⟨f.mono (fun q _ a => Or.inr a), fun q a => Or.inl a⟩
  refine ⟨f.arr (fun e => h.ne e) h.af, h.hs, h.hl, h.aw.set i v, by simp [h.lv], by simp [h.ll], h.xf, h.xw, h.ne, fun j h1 h2 => ?_, fun j hj => ?_, h.bf, fun inp => by simp [PS.put, h.sl]⟩
  · rw [List.getElem_set, List.getElem_set]
    split
    · exact hv.stepY (Y := fun q => q = gW) (fun q a => by rw [show q = gW from a]; exact h.xw) s
    · exact (h.wo j (by simpa using h1) (by simpa using h2)).stepY (Y := fun q => q = gW) (fun q a => by rw [show q = gW from a]; exact h.xw) s
  · rw [List.getElem_set]
    split
    · rename_i e
      subst e
      refine hl.congr (fun inp => ?_)
      have := h.sl inp
      simp [PS.put, PS.at, List.getD_eq_getElem?_getD, this, hi]
    · rename_i e
      refine (h.wv j (by simpa using hj)).congr (fun inp => ?_)
      simp [PS.put, PS.at, List.getD_eq_getElem?_getD, List.getElem?_set, e]
theorem FRM.congr (h : FRM X gc gv w G gF oF gW ty cs cw S vs ls fb) {S' : SS} (e : ∀ inp, S inp = S' inp) : FRM X gc gv w G gF oF gW ty cs cw S' vs ls fb := by
  have : S = S' := funext e
  rw [← this]; exact h
end
theorem Bt.uniq {G : List Gate} {b : Nat} {f g : BF} (h : Bt G b f) (k : Bt G b g) (inp : Nat → Bool) : f inp = g inp := by
  have := (h.2 inp).symm.trans (k.2 inp)
  cases hf : f inp <;> cases hg : g inp <;> simp_all
theorem Wv.uniq {G : List Gate} {l : List Nat} {w : Nat} {f g : WF} (h : Wv G l w f) (k : Wv G l w g) (inp : Nat → Bool) : f inp = g inp := (h.word inp).symm.trans (k.word inp)
end Go.Proofs.Qxb6500772a
