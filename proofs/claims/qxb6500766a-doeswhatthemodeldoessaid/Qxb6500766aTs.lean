/- foldindex: put, the key is new. -/
import Derived.Test.Qxb6500766aTr
namespace Go.Qm
open Go Go.RowKit
/-- All blocks but those of P are as they were. -/
structure Fr (P : Nat → Prop) (w w' : World) : Prop where
  os : w'.os = w.os
  tape : w'.tape = w.tape
  output : w'.output = w.output
  size : w.heap.size ≤ w'.heap.size
  block : ∀ k, k < w.heap.size → ¬ P k → w'.heap[k]? = w.heap[k]?
theorem Fr.refl (P : Nat → Prop) (w : World) : Fr P w w := ⟨rfl, rfl, rfl, Nat.le_refl _, fun _ _ _ => rfl⟩
theorem Fr.trans {P : Nat → Prop} {a b c : World} (h : Fr P a b) (k : Fr P b c) : Fr P a c :=
  ⟨k.os.trans h.os, k.tape.trans h.tape, k.output.trans h.output, Nat.le_trans h.size k.size, fun i hi hp => (k.block i (Nat.lt_of_lt_of_le hi h.size) hp).trans (h.block i hi hp)⟩
theorem Fr.mono {P Q : Nat → Prop} {a b : World} (h : Fr P a b) (hq : ∀ k, k < a.heap.size → P k → Q k) : Fr Q a b := ⟨h.os, h.tape, h.output, h.size, fun k hk hp => h.block k hk (fun a => hp (hq k hk a))⟩
theorem Fr.keep {P : Nat → Prop} {a b : World} (h : Keep a b) : Fr P a b := ⟨h.os, h.tape, h.output, h.size, fun k hk _ => h.block k hk⟩
theorem Fr.grown {P : Nat → Prop} {a b : World} {row : Option Nat} (h : a.grownBy b row) (hr : ∀ k, row = some k → P k) : Fr P a b := ⟨h.os, h.tape, h.output, h.size, fun k hk hp => h.block k hk (fun e => hp (hr k e.symm))⟩
theorem Fr.setCell {P : Nat → Prop} {a b : World} (h : Fr P a b) {p : Addr} (hp : P p.block ∨ a.heap.size ≤ p.block) (u : Value) : Fr P a (b.setCell p u) :=
  ⟨h.os, h.tape, h.output, by simpa using h.size, fun k hk hn => by
    rw [heap_setCell_other b p k u (by
      intro e
      subst e
      rcases hp with q | q
      · exact hn q
      · omega)]
    exact h.block k hk hn⟩
theorem Fr.alloc {P : Nat → Prop} {a b : World} (h : Fr P a b) (o : Obj) : Fr P a (b.alloc o) :=
  ⟨h.os, h.tape, h.output, by have := h.size; simp; omega, fun k hk hn => by rw [heap_alloc_old b o (by have := h.size; omega)]; exact h.block k hk hn⟩
theorem Fr.heap {P : Nat → Prop} {a b : World} (h : Fr P a b) {g : Nat} {o : Obj} (hp : ¬ P g) (hc : a.heap[g]? = some o) : b.heap[g]? = some o := (h.block g (blk_lt hc) hp).trans hc
theorem Fr.arr {P : Nat → Prop} {a b : World} (h : Fr P a b) {g : Nat} {t : TypeId} {cs : List Value} (hp : ¬ P g) (hc : Arr a g t cs) : Arr b g t cs := h.heap hp hc
/-- A cell is set, in this block or in another. -/
theorem Arr.setAny {w : World} {g : Nat} {t : TypeId} {cs : List Value} (h : Arr w g t cs) (g2 i : Nat) (u : Value) : Arr (w.setCell ⟨g2, i, none⟩ u) g t (if g = g2 then cs.set i u else cs) := by
  by_cases e : g = g2
  · subst e; rw [if_pos rfl]; exact h.set i u
  · rw [if_neg e]; exact h.kept (grown_set (grown_refl w _) i u) e
end Go.Qm
namespace Go.Proofs.Qxb6500766a
open Go.RowKit Go.Qm
set_option linter.unusedVariables false
set_option linter.unusedSimpArgs false
attribute [local go_sem ↓] Go.wp_at_zero Go.wp_at_succ
/-- The table's three cells in its block. -/
structure TabC (cs : List Value) (o b n live dead : Nat) : Prop where
  c0 : cs[o]? = some (.slice (some ⟨b, 0, none⟩) n n)
  c1 : cs[o + 1]? = some (.int .i64 live)
  c2 : cs[o + 2]? = some (.int .i64 dead)
/-- The three counters that put turns. -/
def StatC (cS : List Value) (so : Nat) : Prop := ∃ x3 x4 x5 : Int, cS[so + 3]? = some (.int .i64 x3) ∧ cS[so + 4]? = some (.int .i64 x4) ∧ cS[so + 5]? = some (.int .i64 x5)
def SameOff (g o gS so : Nat) (cs cs' : List Value) : Prop := cs'.length = cs.length ∧ ∀ i, i ≠ o → i ≠ o + 1 → i ≠ o + 2 → (g = gS → i ≠ so + 3 ∧ i ≠ so + 4 ∧ i ≠ so + 5) → cs'[i]? = cs[i]?
def PutN (w : World) (g o tc gS so tS : Nat) (cs cS : List Value) (b : Nat) (ss : List Slot) (key : List UInt8) (e : Ent) (r : Ending) (w' : World) : Prop :=
  ∃ b' n' live' dead' ss' lv' cs' cS', r = .returned (.tuple #[]) ∧ Arr w' g tc cs' ∧ Arr w' gS tS cS' ∧ TabC cs' o b' n' live' dead' ∧ StatC cS' so ∧ SameOff g o gS so cs cs' ∧ (g ≠ gS → cS'.length = cS.length ∧ ∀ i, i ≠ so + 3 → i ≠ so + 4 → i ≠ so + 5 → cS'[i]? = cS[i]?) ∧
    n' = ss'.length ∧ Slots w' b' ss' ∧ TV ss' ∧ live' = (LiveL ss').length ∧ dead' = deadN ss' ∧ (LiveL ss').Perm (⟨1, hashB key, key, lv', [e]⟩ :: LiveL ss) ∧ w'.ownsRow w.heap.size 64 3 lv' 1 (entC e) ∧ (∃ a i j, lv' = .slice a i j) ∧
    (b' = b ∨ w.heap.size ≤ b') ∧ b' ≠ g ∧ b' ≠ gS ∧ Fr (fun q => q = g ∨ q = gS ∨ q = b) w w'
/-- What stands while a key is put: the table's block and the counters' block (they may be one), the slots, the entry that was boxed. -/
structure Bas (w0 : World) (g o tc gS so tS : Nat) (cs0 cS0 : List Value) (b0 : Nat) (ge : Nat) (ec : List Value) (W : World) (b n live dead : Nat) (cs cS : List Value) (ss : List Slot) : Prop where
  A : Arr W g tc cs
  AS : Arr W gS tS cS
  T : TabC cs o b n live dead
  SC : StatC cS so
  sm : SameOff g o gS so cs0 cs
  sS : g ≠ gS → cS.length = cS0.length ∧ ∀ i, i ≠ so + 3 → i ≠ so + 4 → i ≠ so + 5 → cS[i]? = cS0[i]?
  eq : g = gS → cs = cS ∧ o + 3 ≤ so
  S : Slots W b ss
  bg : b ≠ g
  bS : b ≠ gS
  bb : b = b0 ∨ w0.heap.size ≤ b
  fr : Fr (fun q => q = g ∨ q = gS ∨ q = b0) w0 W
  E : Arr W ge 64 ec
  gE : w0.heap.size ≤ ge
  gl : g < w0.heap.size
  gSl : gS < w0.heap.size
  bE : b ≠ ge
theorem SameOff.refl (g o gS so : Nat) (cs : List Value) : SameOff g o gS so cs cs := ⟨rfl, fun _ _ _ _ _ => rfl⟩
theorem SameOff.set {g o gS so : Nat} {cs cs' : List Value} (h : SameOff g o gS so cs cs') (k : Nat) (v : Value) (hk : k = o ∨ k = o + 1 ∨ k = o + 2 ∨ (g = gS ∧ (k = so + 3 ∨ k = so + 4 ∨ k = so + 5))) : SameOff g o gS so cs (cs'.set k v) := by
  refine ⟨by rw [List.length_set]; exact h.1, fun i h0 h1 h2 hs => ?_⟩
  rw [List.getElem?_set_ne (by
    intro e
    subst e
    rcases hk with a | a | a | ⟨a, c⟩
    · exact h0 a
    · exact h1 a
    · exact h2 a
    · have := hs a; omega)]
  exact h.2 i h0 h1 h2 hs
theorem get_set {cs : List Value} {i : Nat} {u : Value} (h : cs[i]? = some u) (v : Value) : (cs.set i v)[i]? = some v := by
  rw [List.getElem?_set_self (List.getElem?_eq_some_iff.1 h).1]
theorem get_ne {cs : List Value} {i k : Nat} {u : Value} (h : cs[i]? = some u) (hne : k ≠ i) (v : Value) : (cs.set k v)[i]? = some u := by rw [List.getElem?_set_ne hne]; exact h
section
variable {w0 W : World} {g o tc gS so tS : Nat} {cs0 cS0 cs cS : List Value} {b0 ge b n live dead : Nat} {ec : List Value} {ss : List Slot}
/-- A counter turns. -/
theorem Bas.stat (h : Bas w0 g o tc gS so tS cs0 cS0 b0 ge ec W b n live dead cs cS ss) (k : Nat) (hk : k = 3 ∨ k = 4 ∨ k = 5) (y : Int) :
    ∃ cs' cS', Bas w0 g o tc gS so tS cs0 cS0 b0 ge ec (W.setCell ⟨gS, so + k, none⟩ (.int .i64 y)) b n live dead cs' cS' ss := by
  obtain ⟨x3, x4, x5, y3, y4, y5⟩ := h.SC
  refine ⟨if g = gS then cs.set (so + k) (.int .i64 y) else cs, cS.set (so + k) (.int .i64 y), h.A.setAny gS _ _, h.AS.set _ _, ?_, ?_, ?_, ?_, ?_, h.S.apart (Ne.symm h.bS) _ _, h.bg, h.bS, h.bb, h.fr.setCell (Or.inl (Or.inr (Or.inl rfl))) _, h.E.apart (by have := h.gSl; have := h.gE; omega) _ _, h.gE, h.gl, h.gSl, h.bE⟩
  · by_cases e : g = gS
    · rw [if_pos e]
      have := (h.eq e).2
      exact ⟨get_ne h.T.c0 (by omega) _, get_ne h.T.c1 (by omega) _, get_ne h.T.c2 (by omega) _⟩
    · rw [if_neg e]; exact h.T
  · rcases hk with rfl | rfl | rfl
    · exact ⟨y, x4, x5, get_set y3 _, get_ne y4 (by omega) _, get_ne y5 (by omega) _⟩
    · exact ⟨x3, y, x5, get_ne y3 (by omega) _, get_set y4 _, get_ne y5 (by omega) _⟩
    · exact ⟨x3, x4, y, get_ne y3 (by omega) _, get_ne y4 (by omega) _, get_set y5 _⟩
  · by_cases e : g = gS
    · rw [if_pos e]; exact h.sm.set _ _ (Or.inr (Or.inr (Or.inr ⟨e, by omega⟩)))
    · rw [if_neg e]; exact h.sm
  · intro e
    obtain ⟨l, hh⟩ := h.sS e
    refine ⟨by rw [List.length_set]; exact l, fun i a1 a2 a3 => ?_⟩
    rw [List.getElem?_set_ne (by omega)]
    exact hh i a1 a2 a3
  · intro e
    rw [if_pos e]
    exact ⟨by rw [(h.eq e).1], (h.eq e).2⟩
/-- The table's own count turns. -/
theorem Bas.count (h : Bas w0 g o tc gS so tS cs0 cS0 b0 ge ec W b n live dead cs cS ss) (k v live' dead' : Nat) (hk : (k = 1 ∧ live' = v ∧ dead' = dead) ∨ (k = 2 ∧ live' = live ∧ dead' = v)) :
    ∃ cs' cS', Bas w0 g o tc gS so tS cs0 cS0 b0 ge ec (W.setCell ⟨g, o + k, none⟩ (.int .i64 v)) b n live' dead' cs' cS' ss := by
  obtain ⟨x3, x4, x5, y3, y4, y5⟩ := h.SC
  refine ⟨cs.set (o + k) (.int .i64 v), if gS = g then cS.set (o + k) (.int .i64 v) else cS, h.A.set _ _, h.AS.setAny g _ _, ?_, ?_, h.sm.set _ _ (by omega), ?_, ?_, h.S.apart (Ne.symm h.bg) _ _, h.bg, h.bS, h.bb, h.fr.setCell (Or.inl (Or.inl rfl)) _, h.E.apart (by have := h.gl; have := h.gE; omega) _ _, h.gE, h.gl, h.gSl, h.bE⟩
  · rcases hk with ⟨rfl, rfl, rfl⟩ | ⟨rfl, rfl, rfl⟩
    · exact ⟨get_ne h.T.c0 (by omega) _, get_set h.T.c1 _, get_ne h.T.c2 (by omega) _⟩
    · exact ⟨get_ne h.T.c0 (by omega) _, get_ne h.T.c1 (by omega) _, get_set h.T.c2 _⟩
  · by_cases e : gS = g
    · rw [if_pos e]
      have := (h.eq e.symm).2
      exact ⟨x3, x4, x5, get_ne y3 (by omega) _, get_ne y4 (by omega) _, get_ne y5 (by omega) _⟩
    · rw [if_neg e]; exact ⟨x3, x4, x5, y3, y4, y5⟩
  · intro e
    rw [if_neg (fun a => e a.symm)]
    exact h.sS e
  · intro e
    rw [if_pos e.symm, (h.eq e).1]
    exact ⟨rfl, (h.eq e).2⟩
/-- A slot is set. -/
theorem Bas.slot (h : Bas w0 g o tc gS so tS cs0 cS0 b0 ge ec W b n live dead cs cS ss) {j : Nat} (hj : j < ss.length) (x : Slot) :
    Bas w0 g o tc gS so tS cs0 cS0 b0 ge ec ((((W.setCell ⟨b, j * 4, none⟩ (.int .u8 x.st)).setCell ⟨b, j * 4 + 1, none⟩ (.int .u32 x.hash)).setCell ⟨b, j * 4 + 2, none⟩ (str x.key)).setCell ⟨b, j * 4 + 3, none⟩ x.lv) b n live dead cs cS (ss.set j x) := by
  have hb : (fun q => q = g ∨ q = gS ∨ q = b0) b ∨ w0.heap.size ≤ b := by
    rcases h.bb with a | a
    · exact Or.inl (Or.inr (Or.inr a))
    · exact Or.inr a
  exact ⟨(((h.A.apart h.bg _ _).apart h.bg _ _).apart h.bg _ _).apart h.bg _ _, (((h.AS.apart h.bS _ _).apart h.bS _ _).apart h.bS _ _).apart h.bS _ _, h.T, h.SC, h.sm, h.sS, h.eq, h.S.set4 hj x, h.bg, h.bS, h.bb, (((h.fr.setCell hb _).setCell hb _).setCell hb _).setCell hb _, (((h.E.apart h.bE _ _).apart h.bE _ _).apart h.bE _ _).apart h.bE _ _, h.gE, h.gl, h.gSl, h.bE⟩
theorem Bas.keep (h : Bas w0 g o tc gS so tS cs0 cS0 b0 ge ec W b n live dead cs cS ss) {W' : World} (k : Keep W W') : Bas w0 g o tc gS so tS cs0 cS0 b0 ge ec W' b n live dead cs cS ss :=
  ⟨h.A.keep k, h.AS.keep k, h.T, h.SC, h.sm, h.sS, h.eq, h.S.keep k, h.bg, h.bS, h.bb, h.fr.trans (Fr.keep k), h.E.keep k, h.gE, h.gl, h.gSl, h.bE⟩
/-- Behind a rehash. -/
theorem Bas.rehash (h : Bas w0 g o tc gS so tS cs0 cS0 b0 ge ec W b n live dead cs cS ss) {W' : World} {b' n' : Nat} {ss' : List Slot} (hb : W.heap.size ≤ b') (S' : Slots W' b' ss')
    (A' : Arr W' g tc (((cs.set o (.slice (some ⟨b', 0, none⟩) n' n')).set (o + 1) (.int .i64 live)).set (o + 2) (.int .i64 0))) (gr : W.grownBy W' (some g)) :
    ∃ cs' cS', Bas w0 g o tc gS so tS cs0 cS0 b0 ge ec W' b' n' live 0 cs' cS' ss' := by
  obtain ⟨x3, x4, x5, y3, y4, y5⟩ := h.SC
  have hs := h.fr.size
  have gl := h.gl
  have gSl := h.gSl
  have hE := h.E.lt
  have sm1 := ((h.sm.set o (.slice (some ⟨b', 0, none⟩) n' n') (Or.inl rfl)).set (o + 1) (.int .i64 live) (Or.inr (Or.inl rfl))).set (o + 2) (.int .i64 0) (Or.inr (Or.inr (Or.inl rfl)))
  have T1 : TabC (((cs.set o (.slice (some ⟨b', 0, none⟩) n' n')).set (o + 1) (.int .i64 live)).set (o + 2) (.int .i64 0)) o b' n' live 0 :=
    ⟨get_ne (get_ne (get_set h.T.c0 _) (by omega) _) (by omega) _, get_ne (get_set (get_ne h.T.c1 (by omega) _) _) (by omega) _, get_set (get_ne (get_ne h.T.c2 (by omega) _) (by omega) _) _⟩
  have E1 : Arr W' ge 64 ec := h.E.kept gr (by have := h.gE; omega)
  have F1 : Fr (fun q => q = g ∨ q = gS ∨ q = b0) w0 W' := h.fr.trans (Fr.grown gr (fun k hk => by simp only [Option.some.injEq] at hk; exact Or.inl hk.symm))
  by_cases e : g = gS
  · have hos := (h.eq e).2
    have hcc := (h.eq e).1
    refine ⟨_, _, A', ?_, T1, ?_, sm1, fun a => absurd e a, fun _ => ⟨rfl, hos⟩, S', by omega, by omega, Or.inr (by omega), F1, E1, h.gE, h.gl, h.gSl, by omega⟩
    · subst e
      have ht : tS = tc := by
        have a := h.A
        have b := h.AS
        unfold Arr at a b
        rw [a] at b
        simp only [Option.some.injEq, Obj.cells.injEq] at b
        exact b.2.1.symm
      rw [ht]
      exact A'
    · rw [hcc]
      exact ⟨x3, x4, x5, get_ne (get_ne (get_ne y3 (by omega) _) (by omega) _) (by omega) _, get_ne (get_ne (get_ne y4 (by omega) _) (by omega) _) (by omega) _, get_ne (get_ne (get_ne y5 (by omega) _) (by omega) _) (by omega) _⟩
  · exact ⟨_, cS, A', h.AS.kept gr (fun a => e a.symm), T1, h.SC, sm1, h.sS, fun a => absurd a e, S', by omega, by omega, Or.inr (by omega), F1, E1, h.gE, h.gl, h.gSl, by omega⟩
end
theorem absent_perm {ss ss0 : List Slot} {key : List UInt8} (hp : (LiveL ss).Perm (LiveL ss0)) (h : ∀ i, i < ss0.length → (sl ss0 i).st = 1 → (sl ss0 i).key ≠ key) : ∀ i, i < ss.length → (sl ss i).st = 1 → (sl ss i).key ≠ key := by
  intro i hi hs he
  have hm : sl ss i ∈ LiveL ss := by unfold LiveL; rw [List.mem_filter]; exact ⟨sl_mem hi, by simp [liveB, hs]⟩
  have hm2 := hp.mem_iff.1 hm
  unfold LiveL at hm2
  rw [List.mem_filter] at hm2
  obtain ⟨k, hk, e⟩ := List.mem_iff_getElem.1 hm2.1
  have e2 : sl ss0 k = sl ss i := by rw [sl_eq hk, e]
  exact h k hk (by rw [e2]; exact hs) (by rw [e2]; exact he)
end Go.Proofs.Qxb6500766a
