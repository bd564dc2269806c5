/- circuitm: what the calls answer, by the values of the gates; a word that is being made. -/
import Derived.Test.Qxb6500772aCd
import Derived.Test.Qxb6500772aPa
namespace Go.Qm
open Go Go.RowKit
theorem Fr.cellk {P : Nat → Prop} {a b : World} (h : Fr P a b) {q i : Nat} (hp : ¬ P q) (hq : q < a.heap.size) : b.cell? ⟨q, i, none⟩ = a.cell? ⟨q, i, none⟩ := by
  simp only [World.cell?, h.block q hq hp]
end Go.Qm
namespace Go.Proofs.Qxb6500772a
open Go.RowKit Go.Qm
set_option linter.unusedVariables false
set_option linter.unusedSimpArgs false
attribute [local go_sem ↓] Go.wp_at_zero Go.wp_at_succ
abbrev BF := (Nat → Bool) → Bool
abbrev WF := (Nat → Bool) → Nat
def fpX (gc : Nat) (gv : Value) (X : Nat → Prop) (q : Nat) : Prop := fpC gc gv q ∨ X q
/-- What a call that answers a bit leaves. -/
def RetB (B : Nat) (X : Nat → Prop) (gc : Nat) (gv : Value) (w : World) (G : List Gate) (n k : Nat) (f : BF) (e : Ending) (w' : World) : Prop := ∃ gv' G' b, e = .returned (.int .i64 ((b : Nat) : Int)) ∧ CC B X w' gc gv' G' n ∧ Stp (fpC gc gv) (fpC gc gv') w w' ∧ Ext k G G' ∧ Bt G' b f
/-- What a call that answers a word leaves. -/
def RetV (B : Nat) (X : Nat → Prop) (gc : Nat) (gv : Value) (w : World) (G : List Gate) (n k wd : Nat) (f : WF) (e : Ending) (w' : World) : Prop := ∃ gv' G' l v, e = .returned v ∧ CC B X w' gc gv' G' n ∧ Stp (fpC gc gv) (fpC gc gv') w w' ∧ Ext k G G' ∧ WO (fpX gc gv' X) w' v l ∧ Wv G' l wd f
theorem WO.stepX {gc : Nat} {gv gv' : Value} {X : Nat → Prop} {w w' : World} {v : Value} {l : List Nat} (h : WO (fpX gc gv X) w v l) (s : Stp (fpC gc gv) (fpC gc gv') w w') : WO (fpX gc gv' X) w' v l :=
  ⟨h.wd.fr s.1 (fun q hq => ⟨fun a => (h.nb q hq).1 (Or.inl a), (h.nb q hq).2⟩), fun q hq => ⟨fun a => by
      rcases a with a | a
      · rcases s.2 q a with e | e
        · exact (h.nb q hq).1 (Or.inl e)
        · have := (h.nb q hq).2; omega
      · exact (h.nb q hq).1 (Or.inr a), Nat.lt_of_lt_of_le (h.nb q hq).2 s.1.size⟩⟩
theorem WO.mono {fp fp' : Nat → Prop} {w : World} {v : Value} {l : List Nat} (h : WO fp w v l) (k : ∀ q, fp' q → fp q) : WO fp' w v l := ⟨h.wd, fun q hq => ⟨fun a => (h.nb q hq).1 (k q a), (h.nb q hq).2⟩⟩
/-- The plain laws of the small gates. -/
theorem not_sem {G : List Gate} (h : WFG G) {a : Nat} {f : BF} (ha : Bt G a f) : Ext 1 G (G ++ [gNot a]) ∧ Bt (G ++ [gNot a]) G.length (fun i => !f i) := by
  refine ⟨Ext.add h ⟨by simp [gNot], fun _ => ha.is, by simp [gNot], by simp [gNot], by simp [gNot], by simp [gNot], by simp [gNot]⟩, Bt.new fun inp => ?_⟩
  simp only [gvl, gNot, ha.get inp]
  cases f inp <;> rfl
theorem and_sem {G : List Gate} (h : WFG G) {a b : Nat} {f g : BF} (ha : Bt G a f) (hb : Bt G b g) : Ext 1 G (G ++ [gAnd a b]) ∧ Bt (G ++ [gAnd a b]) G.length (fun i => f i && g i) := by
  refine ⟨Ext.add h ⟨by simp [gAnd], by simp [gAnd], fun _ => ⟨ha.is, hb.is⟩, by simp [gAnd], by simp [gAnd], by simp [gAnd], by simp [gAnd]⟩, Bt.new fun inp => ?_⟩
  simp only [gvl, gAnd, ha.get inp, hb.get inp]
  cases f inp <;> cases g inp <;> rfl
theorem in_sem {G : List Gate} (h : WFG G) (n : Nat) : Ext 1 G (G ++ [gIn n]) ∧ Bt (G ++ [gIn n]) G.length (fun i => i n) := by
  refine ⟨Ext.add h ⟨by simp [gIn], by simp [gIn], by simp [gIn], by simp [gIn], by simp [gIn], by simp [gIn], by simp [gIn]⟩, Bt.new fun inp => ?_⟩
  simp only [gvl, gIn]
  rfl
theorem or_sem {G : List Gate} (h : WFG G) {a b : Nat} {f g : BF} (ha : Bt G a f) (hb : Bt G b g) : Ext 4 G (G ++ orG G.length a b) ∧ Bt (G ++ orG G.length a b) (G.length + 3) (fun i => f i || g i) := by
  obtain ⟨e1, b1⟩ := not_sem h ha
  obtain ⟨e2, b2⟩ := not_sem e1.wf (hb.ext e1.pre)
  obtain ⟨e3, b3⟩ := and_sem e2.wf (b1.ext e2.pre) b2
  obtain ⟨e4, b4⟩ := not_sem e3.wf b3
  have e : G ++ [gNot a] ++ [gNot b] ++ [gAnd G.length (G ++ [gNot a]).length] ++ [gNot (G ++ [gNot a] ++ [gNot b]).length] = G ++ orG G.length a b := by
    simp [orG]
  rw [e] at e4 b4
  exact ⟨((e1.trans e2).trans e3).trans e4, by simpa using b4⟩
theorem mux_sem {G : List Gate} (h : WFG G) {s a b : Nat} {c f g : BF} (hs : Bt G s c) (ha : Bt G a f) (hb : Bt G b g) : Ext 7 G (G ++ muxG G.length s a b) ∧ Bt (G ++ muxG G.length s a b) (G.length + 6) (fun i => if c i then f i else g i) := by
  obtain ⟨e1, b1⟩ := and_sem h hs ha
  obtain ⟨e2, b2⟩ := not_sem e1.wf (hs.ext e1.pre)
  obtain ⟨e3, b3⟩ := and_sem e2.wf b2 ((hb.ext e1.pre).ext e2.pre)
  obtain ⟨e4, b4⟩ := or_sem e3.wf ((b1.ext e2.pre).ext e3.pre) b3
  have e : G ++ [gAnd s a] ++ [gNot s] ++ [gAnd (G ++ [gAnd s a]).length b] ++ orG (G ++ [gAnd s a] ++ [gNot s] ++ [gAnd (G ++ [gAnd s a]).length b]).length G.length (G ++ [gAnd s a] ++ [gNot s]).length = G ++ muxG G.length s a b := by
    simp [muxG]
  rw [e] at e4 b4
  exact ⟨((e1.trans e2).trans e3).trans e4, by
    have := b4.congr (g := fun i => if c i then f i else g i) (fun inp => by cases c inp <;> cases f inp <;> cases g inp <;> rfl)
    simpa using this⟩
section
variable {B gc n : Nat} {X : Nat → Prop} {gv : Value} {G : List Gate} {w : World}
theorem not_s (h : CC B X w gc gv G n) (hw : WFG G) {a : Nat} {f : BF} (ha : Bt G a f) (hl : G.length ≤ 900000000) : Calls Try.prog 70 #[.pointer (some ⟨gc, 0, none⟩), .int .i64 (a : Nat)] w fun e w' => RetB B X gc gv w G n 1 (fun i => !f i) e w' := by
  refine (not_c h a (by omega)).mono ?_
  rintro e w1 ⟨gv', rfl, c, s⟩
  exact ⟨gv', _, _, rfl, c, s, (not_sem hw ha).1, (not_sem hw ha).2⟩
theorem and_s (h : CC B X w gc gv G n) (hw : WFG G) {a b : Nat} {f g : BF} (ha : Bt G a f) (hb : Bt G b g) (hl : G.length ≤ 900000000) : Calls Try.prog 31 #[.pointer (some ⟨gc, 0, none⟩), .int .i64 (a : Nat), .int .i64 (b : Nat)] w fun e w' => RetB B X gc gv w G n 1 (fun i => f i && g i) e w' := by
  refine (and_c h a b (by omega)).mono ?_
  rintro e w1 ⟨gv', rfl, c, s⟩
  exact ⟨gv', _, _, rfl, c, s, (and_sem hw ha hb).1, (and_sem hw ha hb).2⟩
theorem or_s (h : CC B X w gc gv G n) (hw : WFG G) {a b : Nat} {f g : BF} (ha : Bt G a f) (hb : Bt G b g) (hl : G.length ≤ 900000000) : Calls Try.prog 93 #[.pointer (some ⟨gc, 0, none⟩), .int .i64 (a : Nat), .int .i64 (b : Nat)] w fun e w' => RetB B X gc gv w G n 4 (fun i => f i || g i) e w' := by
  refine (or_c h a b (by omega)).mono ?_
  rintro e w1 ⟨gv', rfl, c, s⟩
  exact ⟨gv', _, _, rfl, c, s, (or_sem hw ha hb).1, (or_sem hw ha hb).2⟩
theorem mux_s (h : CC B X w gc gv G n) (hw : WFG G) {s a b : Nat} {c f g : BF} (hs : Bt G s c) (ha : Bt G a f) (hb : Bt G b g) (hl : G.length ≤ 800000000) : Calls Try.prog 100 #[.pointer (some ⟨gc, 0, none⟩), .int .i64 (s : Nat), .int .i64 (a : Nat), .int .i64 (b : Nat)] w fun e w' => RetB B X gc gv w G n 7 (fun i => if c i then f i else g i) e w' := by
  refine (mux_c h s a b (by omega)).mono ?_
  rintro e w1 ⟨gv', rfl, c, s⟩
  exact ⟨gv', _, _, rfl, c, s, (mux_sem hw hs ha hb).1, (mux_sem hw hs ha hb).2⟩
theorem true_s (h : CC B X w gc gv G n) (hw : WFG G) (hl : G.length ≤ 900000000) : Calls Try.prog 72 #[.pointer (some ⟨gc, 0, none⟩)] w fun e w' => RetB B X gc gv w G n 1 (fun _ => true) e w' := by
  refine (true_c h (by omega)).mono ?_
  rintro e w1 ⟨gv', rfl, c, s⟩
  exact ⟨gv', _, _, rfl, c, s, (not_sem hw hw.2).1, (not_sem hw hw.2).2⟩
end
theorem inf46 : (Try.prog.info? 46).map (fun i => (i.zero, i.size, i.bytes)) = some (some (.int .i64 0), 1, 8) := by kernel_rfl
/-- A list of bits that is being made: it owns its block. -/
def OutW (B : Nat) (fp : Nat → Prop) (w : World) (v : Value) (l : List Nat) : Prop := Own B 46 w v (l.map bv) ∧ ∀ q, v.ownBlock = some q → ¬ fp q
theorem OutW.step {B : Nat} {fp fp' : Nat → Prop} {w w' : World} {v : Value} {l : List Nat} (h : OutW B fp w v l) (s : Stp fp fp' w w') : OutW B fp' w' v l :=
  ⟨h.1.fr s.1 h.2, fun q hq a => by
    rcases s.2 q a with e | e
    · exact h.2 q hq e
    · have := (h.1.lt q hq).2; omega⟩
theorem Stp.fresh {a b : Nat → Prop} {w w2 w3 : World} {P : Nat → Prop} (s : Stp a b w w2) (f : Fr P w2 w3) (hP : ∀ q, P q → w.heap.size ≤ q) : Stp a b w w3 :=
  ⟨⟨f.os.trans s.1.os, f.tape.trans s.1.tape, f.output.trans s.1.output, Nat.le_trans s.1.size f.size, fun q hq hp => (f.block q (Nat.lt_of_lt_of_le hq s.1.size) (fun x => by have := hP q x; omega)).trans (s.1.block q hq hp)⟩, s.2⟩
theorem CC.flt {B gc n : Nat} {X : Nat → Prop} {w : World} {gv : Value} {G : List Gate} (h : CC B X w gc gv G n) {q : Nat} (hq : fpC gc gv q) : B ≤ q ∧ q < w.heap.size := by
  obtain ⟨R, h, -, -⟩ := h
  rcases hq with a | a
  · rw [a]; exact ⟨h.lo, h.arr.lt⟩
  · exact h.own.lt q a
theorem WO.cell {fp : Nat → Prop} {w : World} {a : Option Addr} {m c : Nat} {l : List Nat} (h : WO fp w (.slice a m c) l) {i : Nat} (hi : i < l.length) : ∃ b o, a = some ⟨b, o, none⟩ ∧ w.cell? ⟨b, o + i, none⟩ = some (.int .i64 (l[i] : Nat)) := by
  obtain ⟨a', c', e, -, -, h3⟩ := h.wd
  injection e with e1 _ _
  subst e1
  exact h3 i _ (by simp [hi, bv])
theorem WO.form {fp : Nat → Prop} {w : World} {v : Value} {l : List Nat} (h : WO fp w v l) : ∃ a c, v = .slice a l.length c ∧ l.length ≤ c ∧ c ≤ maxLen := by
  obtain ⟨a', c', e, h1, h2, -⟩ := h.wd
  rw [List.length_map] at e h1
  exact ⟨a', c', e, h1, h2⟩
/-- The first bits of a word. -/
def Wp (G : List Gate) (l : List Nat) (f : WF) : Prop := ∀ i (h : i < l.length), Bt G l[i] (fun inp => (f inp).testBit i)
theorem Wp.push {G G' : List Gate} {l : List Nat} {f : WF} (h : Wp G l f) (k : G <+: G') {b : Nat} (hb : Bt G' b (fun inp => (f inp).testBit l.length)) : Wp G' (l ++ [b]) f := by
  intro i hi
  by_cases e : i < l.length
  · rw [List.getElem_append_left e]; exact (h i e).ext k
  · have e2 : i = l.length := by simp at hi; omega
    subst e2
    simpa using hb
/-- The state of a loop that makes a word. -/
structure LW (B : Nat) (X : Nat → Prop) (w : World) (gc : Nat) (gv : Value) (G : List Gate) (n : Nat) (F : WF) (K k : Nat) (wr : World) (g' : Value) (G' : List Gate) (v : Value) (l : List Nat) : Prop where
  cc : CC B (upX X w) wr gc g' G' n
  st : Stp (fpC gc gv) (fpC gc g') w wr
  ex : Ext K G G'
  ow : OutW w.heap.size (fpC gc g') wr v l
  ln : l.length = k
  wp : Wp G' l F
section
variable {B gc n : Nat} {X : Nat → Prop} {gv : Value} {G : List Gate} {w : World} {F : WF} {K k : Nat} {wr : World} {g' : Value} {G' : List Gate} {v : Value} {l : List Nat}
theorem LW.start (h : CC B X w gc gv G n) (hw : WFG G) (F : WF) : LW B X w gc gv G n F 0 0 (w.alloc (.cells #[] 46)) gv G (.slice (some ⟨w.heap.size, 0, none⟩) 0 0) [] := by
  refine ⟨h.top.keep ((Keep.refl w).alloc _), Stp.keep ((Keep.refl w).alloc _), Ext.refl hw, ⟨Own.lit (B := w.heap.size) [] (Nat.le_refl _) (by simp [maxLen]), fun q hq a => ?_⟩, rfl, fun i hi => by simp at hi⟩
  have h1 := (h.flt a).2
  simp [Value.ownBlock] at hq
  omega
/-- A bit is made, then appended. -/
theorem LW.push (h : LW B X w gc gv G n F K k wr g' G' v l) {w2 w3 w4 : World} {g2 : Value} {G2 : List Gate} {b j : Nat} {v' : Value} (hc : CC B (upX X w) w2 gc g2 G2 n) (hs : Stp (fpC gc g') (fpC gc g2) wr w2) (he : Ext j G' G2) (hb : Bt G2 b (fun inp => (F inp).testBit k))
    (hk : Keep w2 w3) (hown : Own w.heap.size 46 w4 v' (l.map bv ++ [bv b])) (hgr : w3.grownBy w4 v.ownBlock) (hob : v'.ownBlock = v.ownBlock ∨ v'.ownBlock = some w3.heap.size) : LW B X w gc gv G n F (K + j) (k + 1) w4 g2 G2 v' (l ++ [b]) := by
  have o2 := h.ow.step hs
  have hP : ∀ q, v.ownBlock = some q → w.heap.size ≤ q := fun q hq => (o2.1.lt q hq).1
  refine ⟨(hc.keep hk).fr (Fr.grown (P := fun q => v.ownBlock = some q) hgr (fun q hq => hq)) (fun q hq => ⟨o2.2 q hq, Or.inr (hP q hq)⟩), ((h.st.trans hs).fresh (Fr.keep (P := fun q => v.ownBlock = some q) hk) hP).fresh (Fr.grown (P := fun q => v.ownBlock = some q) hgr (fun q hq => hq)) hP, h.ex.trans he, ⟨by rw [List.map_append]; exact hown, fun q hq a => ?_⟩, by simp [h.ln], h.wp.push he.pre (by rw [h.ln]; exact hb)⟩
  rcases hob with e | e
  · exact o2.2 q (e ▸ hq) a
  · rw [e] at hq
    have h1 := Option.some.inj hq
    have h2 := (hc.flt a).2
    have h3 := hk.size
    omega
theorem LW.done (h : LW B X w gc gv G n F K k wr g' G' v l) (hX : ∀ q, X q → q < w.heap.size) {K' : Nat} (hK : K ≤ K') (hF : ∀ i, F i < 2 ^ k) : RetV B X gc gv w G n K' k F (.returned v) wr := by
  refine ⟨g', G', l, v, rfl, h.cc.weak (fun q a => Or.inl a), h.st, h.ex.mono hK, ⟨h.ow.1.sl, fun q hq => ⟨fun a => ?_, (h.ow.1.lt q hq).2⟩⟩, ⟨h.ln, h.wp, hF⟩⟩
  rcases a with a | a
  · exact h.ow.2 q hq a
  · have h1 := hX q a
    have h2 := (h.ow.1.lt q hq).1
    omega
end
/-- append of one bit, in a region that draws its order. -/
theorem wp_appB {o : Oper} {a : Act} {w : World} {K : Act → World → Prop} {Q : Exit → Act → World → Prop} (s x : Operand) (ho : o.op = .call { callee := .builtin .append, args := #[s, x], argTypes := #[95, 95] })
    {B : Nat} {v xv u : Value} {xs : List Value} (hown : Own B 46 w v xs) (hx1 : Sl w xv [u]) (hu : u.oneCell' = true) (hl : xs.length ≤ 1000000) (hB : B ≤ w.heap.size) (hs : a.eval s = v) (hx : a.eval x = xv)
    (h : ∀ v' w', Own B 46 w' v' (xs ++ [u]) → w.grownBy w' v.ownBlock → (v'.ownBlock = v.ownBlock ∨ v'.ownBlock = some w.heap.size) → K (a.put o.dst v') w') : o.wp Try.prog a w K Q := by
  obtain ⟨v', w', hr, h2, h3, h4⟩ := run_app (P := Try.prog) (ty := o.type) Try.underlying95 inf46 rfl hown hx1 (by simpa using hu) (by simp [maxLen]; omega) (by simp; omega) hB
  unfold Oper.wp execOp
  simp only [ho, resolve, invoke, builtin, Sem.run_bind, Sem.run_pure, Result.andThen_ok, List.map_toArray, List.map_cons, List.map_nil, hs, hx, hr]
  exact h v' w' h2 h3 h4
end Go.Proofs.Qxb6500772a
