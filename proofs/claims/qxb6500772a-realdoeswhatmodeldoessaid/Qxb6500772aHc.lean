/- blast: the pins while they are made. -/
import Derived.Test.Qxb6500772aHb
import Derived.Test.Qxb6500772aMg
namespace Go.Proofs.Qxb6500772a
open Go.RowKit Go.Qm
set_option linter.unusedVariables false
set_option linter.unusedSimpArgs false
/-- A system whose pins are being made. -/
structure PB (B : Nat) (X P : Nat → Prop) (gB : Nat) (cv : Value) (gc gS : Nat) (cs : List Value) (w : World) (gv : Value) (G : List Gate) (n : Nat) (pv : Value) (pl : List PinV) : Prop where
  bs : BS B X P w gB cv gc gv G n
  ar : Arr w gS 52 (cs.set 12 pv)
  ow : OwnS pinVC 3 67 B w pv pl
  px : ∀ q, pv.ownBlock = some q → X q ∧ q ≠ gS
  xs : X gS
/-- What may turn: the circuit's blocks, the system, the pins' block, those of Y, and new ones. -/
structure PT (Y : Nat → Prop) (gc gS : Nat) (w : World) (gv pv : Value) (X : Nat → Prop) (w' : World) (gv' pv' : Value) (X' : Nat → Prop) : Prop where
  fr : Fr (fun q => fpC gc gv q ∨ q = gS ∨ pv.ownBlock = some q ∨ Y q) w w'
  nw : ∀ q, fpC gc gv' q → fpC gc gv q ∨ w.heap.size ≤ q
  pw : ∀ q, pv'.ownBlock = some q → pv.ownBlock = some q ∨ w.heap.size ≤ q
  x1 : ∀ q, X q → X' q
  x2 : ∀ q, X' q → X q ∨ w.heap.size ≤ q
section
variable {B : Nat} {X X' X'' P Y : Nat → Prop} {gB : Nat} {cv : Value} {gc gS : Nat} {cs : List Value} {w w' w'' : World} {gv gv' gv'' : Value} {G G' : List Gate} {n : Nat} {pv pv' pv'' : Value} {pl : List PinV}
theorem PT.size (h : PT Y gc gS w gv pv X w' gv' pv' X') : w.heap.size ≤ w'.heap.size := h.fr.size
theorem PT.refl (w : World) : PT Y gc gS w gv pv X w gv pv X := ⟨Fr.refl _ w, fun q a => Or.inl a, fun q a => Or.inl a, fun q a => a, fun q a => Or.inl a⟩
theorem PT.keep (k : Keep w w') : PT Y gc gS w gv pv X w' gv pv X := ⟨Fr.keep k, fun q a => Or.inl a, fun q a => Or.inl a, fun q a => a, fun q a => Or.inl a⟩
theorem PT.trans (h : PT Y gc gS w gv pv X w' gv' pv' X') {Y' : Nat → Prop} (k : PT Y' gc gS w' gv' pv' X' w'' gv'' pv'' X'') (hy : ∀ q, Y' q → Y q ∨ w.heap.size ≤ q) : PT Y gc gS w gv pv X w'' gv'' pv'' X'' := by
  have hs := h.size
  refine ⟨⟨k.fr.os.trans h.fr.os, k.fr.tape.trans h.fr.tape, k.fr.output.trans h.fr.output, Nat.le_trans hs k.size, fun q hq hn => ?_⟩, fun q a => ?_, fun q a => ?_, fun q a => k.x1 q (h.x1 q a), fun q a => ?_⟩
  · rw [k.fr.block q (Nat.lt_of_lt_of_le hq hs) (fun a => ?_)]
    · exact h.fr.block q hq hn
    · rcases a with a | a | a | a
      · rcases h.nw q a with b | b
        · exact hn (Or.inl b)
        · omega
      · exact hn (Or.inr (Or.inl a))
      · rcases h.pw q a with b | b
        · exact hn (Or.inr (Or.inr (Or.inl b)))
        · omega
      · rcases hy q a with b | b
        · exact hn (Or.inr (Or.inr (Or.inr b)))
        · omega
  · rcases k.nw q a with b | b
    · exact h.nw q b
    · exact Or.inr (by omega)
  · rcases k.pw q a with b | b
    · exact h.pw q b
    · exact Or.inr (by omega)
  · rcases k.x2 q a with b | b
    · exact h.x2 q b
    · exact Or.inr (by omega)
theorem PT.lessX (h : PT Y gc gS w gv pv X w' gv' pv' X') {Z : Nat → Prop} (hZ : ∀ q, Z q → X' q) (h1 : ∀ q, X q → Z q) : PT Y gc gS w gv pv X w' gv' pv' Z := ⟨h.fr, h.nw, h.pw, h1, fun q a => h.x2 q (hZ q a)⟩
theorem PT.arr (h : PT Y gc gS w gv pv X w' gv' pv' X') {g : Nat} {t : TypeId} {l : List Value} (a : Arr w g t l) (h1 : ¬ fpC gc gv g) (h2 : g ≠ gS) (h3 : pv.ownBlock ≠ some g) (h4 : ¬ Y g) : Arr w' g t l := h.fr.arr (fun e => by
  rcases e with e | e | e | e
  · exact h1 e
  · exact h2 e
  · exact h3 e
  · exact h4 e) a
/-- A block that is none of those stays none. -/
theorem PT.off (h : PT Y gc gS w gv pv X w' gv' pv' X') {g : Nat} (hg : g < w.heap.size) (h1 : ¬ fpC gc gv g) (h3 : pv.ownBlock ≠ some g) : ¬ fpC gc gv' g ∧ pv'.ownBlock ≠ some g := ⟨fun a => by
    rcases h.nw g a with b | b
    · exact h1 b
    · omega, fun a => by
    rcases h.pw g a with b | b
    · exact h3 b
    · omega⟩
theorem PT.wo (h : PT Y gc gS w gv pv X w' gv' pv' X') (hs : X gS) (hp : ∀ q, pv.ownBlock = some q → X q) (hY : ∀ q, Y q → X q) {v : Value} {l : List Nat} (a : WO (fpX gc gv X) w v l) : WO (fpX gc gv' X') w' v l :=
  ⟨a.wd.fr h.fr (fun q hq => ⟨fun e => (a.nb q hq).1 (by
      rcases e with e | e | e | e
      · exact Or.inl e
      · exact Or.inr (e ▸ hs)
      · exact Or.inr (hp q e)
      · exact Or.inr (hY q e)), (a.nb q hq).2⟩), fun q hq => ⟨fun e => by
      have := (a.nb q hq).2
      rcases e with e | e
      · rcases h.nw q e with b | b
        · exact (a.nb q hq).1 (Or.inl b)
        · omega
      · rcases h.x2 q e with b | b
        · exact (a.nb q hq).1 (Or.inr b)
        · omega, Nat.lt_of_lt_of_le (a.nb q hq).2 h.size⟩⟩
theorem PB.keep (h : PB B X P gB cv gc gS cs w gv G n pv pl) (k : Keep w w') : PB B X P gB cv gc gS cs w' gv G n pv pl := ⟨h.bs.keep k, h.ar.keep k, h.ow.keep k, h.px, h.xs⟩
theorem PB.cells (h : PB B X P gB cv gc gS cs w gv G n pv pl) (h0 : cs[0]? = some (.pointer (some ⟨gc, 0, none⟩))) (hl : cs.length = 13) : w.cell? ⟨gS, 0, none⟩ = some (.pointer (some ⟨gc, 0, none⟩)) ∧ w.cell? ⟨gS, 12, none⟩ = some pv ∧ w.frozen? ⟨gS, 12, none⟩ = false := by
  refine ⟨?_, ?_, h.ar.frozen 12⟩
  · rw [h.ar.cell, List.getElem?_set_ne (by decide)]; exact h0
  · rw [h.ar.cell]; simp [hl]
theorem PB.input (h : PB B X P gB cv gc gS cs w gv G n pv pl) (hl : G.length ≤ 700000000) (hn : n ≤ 1000000) : Calls Try.prog 62 #[.pointer (some ⟨gc, 0, none⟩)] w fun e w' => ∃ gv', e = .returned (.int .i64 ((G.length : Nat) : Int)) ∧ PB B X P gB cv gc gS cs w' gv' (G ++ [gIn n]) (n + 1) pv pl ∧ PT (fun _ => False) gc gS w gv pv X w' gv' pv X ∧ Ext 1 G (G ++ [gIn n]) ∧ Bt (G ++ [gIn n]) G.length (fun inp => inp n) := by
  refine (input_k h.bs hl hn).mono ?_
  rintro e w' ⟨gv', rfl, b, s, x, t⟩
  refine ⟨gv', rfl, ⟨b, s.1.arr (h.bs.hx gS h.xs).2.1 h.ar, h.ow.fr s.1 (fun q hq => (h.bs.hx q (h.px q hq).1).2.1), h.px, h.xs⟩, ⟨s.1.mono (fun q _ a => Or.inl a), s.2, fun q a => Or.inl a, fun q a => a, fun q a => Or.inl a⟩, x, t⟩
/-- A pin is appended, and the slice is stored. -/
theorem PB.app (h : PB B X P gB cv gc gS cs w gv G n pv pl) {p : PinV} {v' : Value} {w2 : World} (ho : OwnS pinVC 3 67 B w2 v' (pl ++ [p])) (hg : w.grownBy w2 pv.ownBlock) (hb : v'.ownBlock = pv.ownBlock ∨ v'.ownBlock = some w.heap.size) : PB B (fun q => X q ∨ v'.ownBlock = some q) P gB cv gc gS cs (w2.setCell ⟨gS, 12, none⟩ v') gv G n v' (pl ++ [p]) ∧ PT (fun _ => False) gc gS w gv pv X (w2.setCell ⟨gS, 12, none⟩ v') gv v' (fun q => X q ∨ v'.ownBlock = some q) := by
  have hgS := h.ar.lt
  have f1 : Fr (fun q => pv.ownBlock = some q) w w2 := Fr.grown hg (fun k e => e)
  have f2 : Fr (fun q => q = gS ∨ pv.ownBlock = some q) w (w2.setCell ⟨gS, 12, none⟩ v') := Fr.setCell (P := fun q => q = gS ∨ pv.ownBlock = some q) (p := ⟨gS, 12, none⟩) (f1.mono (fun q _ a => Or.inr a)) (Or.inl (Or.inl rfl)) _
  have hne : ∀ q, v'.ownBlock = some q → q ≠ gS := fun q hq => by
    rcases hb with e | e
    · exact (h.px q (by rw [← e]; exact hq)).2
    · rw [e] at hq
      have := Option.some.inj hq
      omega
  have a2 : Arr w2 gS 52 (cs.set 12 pv) := f1.arr (fun e => (h.px gS e).2 rfl) h.ar
  have o2 : OwnS pinVC 3 67 B (w2.setCell ⟨gS, 12, none⟩ v') v' (pl ++ [p]) := ho.fr (Fr.setCell (P := fun q => q = gS) (p := ⟨gS, 12, none⟩) (Fr.refl _ w2) (Or.inl rfl) v') (fun q hq e => hne q hq e)
  have hZ : ∀ q, (X q ∨ v'.ownBlock = some q) → X q ∨ (w.heap.size ≤ q ∧ q < (w2.setCell ⟨gS, 12, none⟩ v').heap.size) := fun q a => by
    rcases a with a | a
    · exact Or.inl a
    · rcases hb with e | e
      · exact Or.inl (h.px q (by rw [← e]; exact a)).1
      · have hq := (o2.lt q a).2
        rw [e] at a
        have := Option.some.inj a
        exact Or.inr ⟨by omega, hq⟩
  refine ⟨⟨h.bs.moreF f2 (fun q a => by
      rcases a with rfl | a
      · exact h.xs
      · exact (h.px q a).1) hZ, by simpa using a2.set 12 v', o2, fun q hq => ⟨Or.inr hq, hne q hq⟩, Or.inl h.xs⟩, ⟨f2.mono (fun q _ a => Or.inr (a.imp id Or.inl)), fun q a => Or.inl a, fun q a => ?_, fun q a => Or.inl a, fun q a => (hZ q a).imp id And.left⟩⟩
  rcases hb with e | e
  · exact Or.inl (by rw [← e]; exact a)
  · rw [e] at a
    have := Option.some.inj a
    exact Or.inr (by omega)
theorem PB.app0 (h : PB B X P gB cv gc gS cs w gv G n pv pl) (hl : cs.length = 13) {w2 : World} (hg : w.grownBy w2 pv.ownBlock) : w2.cell? ⟨gS, 12, none⟩ = some pv ∧ w2.frozen? ⟨gS, 12, none⟩ = false := by
  have f1 : Fr (fun q => pv.ownBlock = some q) w w2 := Fr.grown hg (fun k e => e)
  have a2 : Arr w2 gS 52 (cs.set 12 pv) := f1.arr (fun e => (h.px gS e).2 rfl) h.ar
  exact ⟨by rw [a2.cell]; simp [hl], a2.frozen 12⟩
/-- A block of X that is neither the system nor the pins' is written. -/
theorem PB.set (h : PB B X P gB cv gc gS cs w gv G n pv pl) {g : Nat} (hg : X g) (h1 : g ≠ gS) (h2 : pv.ownBlock ≠ some g) (i : Nat) (u : Value) : PB B X P gB cv gc gS cs (w.setCell ⟨g, i, none⟩ u) gv G n pv pl ∧ PT (fun q => q = g) gc gS w gv pv X (w.setCell ⟨g, i, none⟩ u) gv pv X := by
  have f : Fr (fun q => q = g) w (w.setCell ⟨g, i, none⟩ u) := Fr.setCell (p := ⟨g, i, none⟩) (Fr.refl (fun q => q = g) w) (Or.inl rfl) u
  refine ⟨⟨h.bs.set hg u, f.arr (fun e => h1 e.symm) h.ar, h.ow.fr f (fun q hq e => h2 (by rw [← e]; exact hq)), h.px, h.xs⟩, ⟨f.mono (fun q _ a => Or.inr (Or.inr (Or.inr a))), fun q a => Or.inl a, fun q a => Or.inl a, fun q a => a, fun q a => Or.inl a⟩⟩
/-- Another cell of the system is written. -/
theorem PB.setS (h : PB B X P gB cv gc gS cs w gv G n pv pl) {i : Nat} (hi : i ≠ 12) (u : Value) : PB B X P gB cv gc gS (cs.set i u) (w.setCell ⟨gS, i, none⟩ u) gv G n pv pl ∧ PT Y gc gS w gv pv X (w.setCell ⟨gS, i, none⟩ u) gv pv X := by
  have f : Fr (fun q => q = gS) w (w.setCell ⟨gS, i, none⟩ u) := Fr.setCell (p := ⟨gS, i, none⟩) (Fr.refl (fun q => q = gS) w) (Or.inl rfl) u
  refine ⟨⟨h.bs.set h.xs u, ?_, h.ow.fr f (fun q hq e => (h.px q hq).2 e), h.px, h.xs⟩, ⟨f.mono (fun q _ a => Or.inr (Or.inl a)), fun q a => Or.inl a, fun q a => Or.inl a, fun q a => a, fun q a => Or.inl a⟩⟩
  rw [← List.set_comm _ _ (fun e => hi e.symm)]
  exact h.ar.set i u
/-- A new block comes to X. -/
theorem PB.more (h : PB B X P gB cv gc gS cs w gv G n pv pl) (k : Keep w w') {Z : Nat → Prop} (h1 : ∀ q, X q → Z q) (hZ : ∀ q, Z q → X q ∨ (w.heap.size ≤ q ∧ q < w'.heap.size)) : PB B Z P gB cv gc gS cs w' gv G n pv pl ∧ PT Y gc gS w gv pv X w' gv pv Z :=
  ⟨⟨h.bs.more k hZ, h.ar.keep k, h.ow.keep k, fun q hq => ⟨h1 q (h.px q hq).1, (h.px q hq).2⟩, h1 gS h.xs⟩, ⟨Fr.keep k, fun q a => Or.inl a, fun q a => Or.inl a, h1, fun q a => (hZ q a).imp id And.left⟩⟩
theorem PB.less (h : PB B X P gB cv gc gS cs w gv G n pv pl) {Z : Nat → Prop} (hZ : ∀ q, Z q → X q) (h1 : Z gS) (h2 : ∀ q, pv.ownBlock = some q → Z q) : PB B Z P gB cv gc gS cs w gv G n pv pl := ⟨h.bs.less hZ, h.ar, h.ow, fun q hq => ⟨h2 q hq, (h.px q hq).2⟩, h1⟩
end
end Go.Proofs.Qxb6500772a
