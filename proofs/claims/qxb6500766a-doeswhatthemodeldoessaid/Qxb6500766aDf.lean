/- foldindex: fetch, the plain part. -/
import Derived.Test.Qxb6500766aDc
namespace Go.Proofs.Qxb6500766a
open Go.RowKit Go.Qm
set_option linter.unusedVariables false
def stS (s : Shelf) (x : Int) : Shelf := ⟨s.used, s.dir, x, s.sv, s.live, s.dead⟩
theorem flat_stamp (x : Int) : ∀ (sh : List Shelf) (j : Nat), j < sh.length → (sh.flatMap shC).set (j * 6 + 2) (.int .u64 x) = (sh.set j (stS (sh.getD j sh0) x)).flatMap shC
  | [], j, h => by simp at h
  | s :: l, 0, _ => by simp [shC, stS]
  | s :: l, j + 1, h => by
    have ih := flat_stamp x l j (by simpa using h)
    simp only [List.flatMap_cons, List.set_cons_succ]
    rw [show (j + 1) * 6 + 2 = (shC s).length + (j * 6 + 2) by rw [shC_length]; omega, List.set_append_right _ _ (by omega), Nat.add_sub_cancel_left, ih]
    rfl
theorem cacheL_stamp (src : Value) {sh : List Shelf} (tl : List Value) {i : Nat} (hi : i < sh.length) (x : Int) : (cacheL src sh tl).set (1 + i * 6 + 2) (.int .u64 x) = cacheL src (sh.set i (stS (sh.getD i sh0) x)) tl := by
  have hl := flat_length shC 6 shC_length sh
  unfold cacheL
  rw [← flat_stamp x sh i hi, show 1 + i * 6 + 2 = (i * 6 + 2) + 1 by omega, List.set_cons_succ, List.set_append_left _ _ (by omega)]
theorem updG_same {G : Nat → Option Tb} {i : Nat} {o : Option Tb} (h : G i = o) : updG G i o = G := by
  funext j
  unfold updG
  split
  · rename_i e; rw [e, h]
  · rfl
section
variable {B : Nat} {w w' : World} {gs gc ck : Nat} {R R' : Sys} {sh : List Shelf} {tl : List Value} {G : Nat → Option Tb}
theorem grown_fr {w w' : World} {gc : Nat} (gr : w.grownBy w' (some gc)) : Fr (fun q => q = gc) w w' := Fr.grown gr (fun k hk => (Option.some.inj hk).symm)
theorem CW.stamp (h : CW B w gs gc ck R sh tl G) {i : Nat} {t : Tb} (e : G i = some t) {x : Int} (h0 : 0 ≤ x) (h1 : x ≤ ck) : ∃ sh', CW B (w.setCell ⟨gc, 1 + i * 6 + 2, none⟩ (.int .u64 x)) gs gc ck R sh' tl G := by
  obtain ⟨hi, ok⟩ := h.ok i t e
  have A' := Go.Qm.Arr.set h.A (1 + i * 6 + 2) (.int .u64 x)
  rw [cacheL_stamp _ tl (by rw [h.len]; exact hi)] at A'
  have gr := grown_set (grown_refl w (some gc)) (1 + i * 6 + 2) (.int .u64 x)
  have := h.upd (R' := R) hi A' h.tl (Nat.le_refl _) (grown_fr gr) (fun j u hj e2 => ⟨fun q hq a => h.gne e2 (by rw [← a]; exact hq), rfl⟩) (some t) (fun a => by cases a) (fun t' et => by
    cases et
    exact ⟨⟨ok.used, ok.dir, ok.d24, h0, h1, ok.sv, ok.live, ok.dead, ok.tab.fr (grown_fr gr) (fun q hq a => h.gne e (by rw [← a]; exact hq))⟩, fun j u hj e2 => ⟨fun a => hj (h.ds j i u t e2 e a), fun q hq => h.ap i j t u e e2 (Ne.symm hj) q hq⟩⟩)
  rw [updG_same e] at this
  exact ⟨_, this⟩
/-- Behind room: a shelf is free. -/
theorem CW.room (h : CW B w gs gc ck R sh tl G) {e : Ending} (hr : RoomP w gc (.pointer (some ⟨gs, 0, none⟩)) sh ck tl e w') :
    ∃ (i : Nat) (sh' : List Shelf) (tl' : List Value) (G' : Nat → Option Tb), i < 16 ∧ e = .returned (.int .i64 (i : Int)) ∧ CW B w' gs gc ck R sh' tl' G' ∧ G' i = none ∧ (∀ j u, G' j = some u → G j = some u) ∧ w.grownBy w' (some gc) := by
  obtain ⟨i, tl', hi, he, ht, gr, hc⟩ := hr
  rcases hc with ⟨hu, A'⟩ | A'
  · refine ⟨i, sh, tl', G, hi, he, h.tlUp A' ht (Nat.le_refl _) gr, ?_, fun _ _ a => a, gr⟩
    cases e2 : G i with
    | none => rfl
    | some t =>
      have := (h.ok i t e2).2.used
      unfold shU at hu
      rw [hu] at this
      cases this
  · refine ⟨i, sh.set i sh0, tl', updG G i none, hi, he, ?_, updG_self _ _ _, ?_, gr⟩
    · exact h.upd (R' := R) hi A' ht (Nat.le_refl _) (grown_fr gr) (fun j u hj e2 => ⟨fun q hq a => h.gne e2 (by rw [← a]; exact hq), rfl⟩) none (fun _ => rfl) (fun t et => by cases et)
    · intro j u e2
      by_cases ej : j = i
      · subst ej; rw [updG_self] at e2; cases e2
      · rw [updG_ne G none ej] at e2; exact e2
/-- A table is laid on the free shelf. -/
theorem CW.place (h : CW B w gs gc ck R sh tl G) {i : Nat} (hi : i < 16) (hn : G i = none) {d b : Nat} {ss : List Slot} (hd : d < 24) (hno : ∀ j u, G j = some u → u.dir ≠ d) {w1 : World} (hB : B ≤ w.heap.size) (gr : w.grownBy w1 (some gc)) {tl1 : List Value} (A1 : Arr w1 gc 75 (cacheL (.pointer (some ⟨gs, 0, none⟩)) sh tl1)) (ht : TlOK ck tl1)
    (TW : TabW w.heap.size w1 b ss (R d)) : ∃ sh', CW B ((((((w1.setCell ⟨gc, 1 + i * 6, none⟩ (.bool true)).setCell ⟨gc, 1 + i * 6 + 1, none⟩ (.int .i64 d)).setCell ⟨gc, 1 + i * 6 + 2, none⟩ (.int .u64 0)).setCell ⟨gc, 1 + i * 6 + 3, none⟩ (.slice (some ⟨b, 0, none⟩) ss.length ss.length)).setCell ⟨gc, 1 + i * 6 + 4, none⟩ (.int .i64 ((LiveL ss).length : Nat))).setCell ⟨gc, 1 + i * 6 + 5, none⟩ (.int .i64 (deadN ss : Nat))) gs gc ck R sh' tl1 (updG G i (some ⟨d, b, ss⟩)) := by
  have A' := (((((Go.Qm.Arr.set A1 (1 + i * 6) (.bool true)).set (1 + i * 6 + 1) (.int .i64 d)).set (1 + i * 6 + 2) (.int .u64 0)).set (1 + i * 6 + 3) (.slice (some ⟨b, 0, none⟩) ss.length ss.length)).set (1 + i * 6 + 4) (.int .i64 ((LiveL ss).length : Nat))).set (1 + i * 6 + 5) (.int .i64 (deadN ss : Nat))
  have e := cacheL_set (.pointer (some ⟨gs, 0, none⟩)) sh tl1 i (by rw [h.len]; exact hi) ⟨true, d, 0, .slice (some ⟨b, 0, none⟩) ss.length ss.length, ((LiveL ss).length : Nat), (deadN ss : Nat)⟩
  simp only at e
  rw [e] at A'
  have gr2 := grown_set (grown_set (grown_set (grown_set (grown_set (grown_set (grown_refl w1 (some gc)) (1 + i * 6) (.bool true)) (1 + i * 6 + 1) (.int .i64 d)) (1 + i * 6 + 2) (.int .u64 0)) (1 + i * 6 + 3) (.slice (some ⟨b, 0, none⟩) ss.length ss.length)) (1 + i * 6 + 4) (.int .i64 ((LiveL ss).length : Nat))) (1 + i * 6 + 5) (.int .i64 (deadN ss : Nat))
  have TW2 := TW.fr (grown_fr gr2) (fun q hq a => TW.out A1 (by decide) (by decide) (by rw [← a]; exact hq))
  refine ⟨_, h.upd (R' := R) hi A' ht (Nat.le_refl _) (grown_fr (grown_trans gr gr2)) (fun j u hj e2 => ⟨fun q hq a => h.gne e2 (by rw [← a]; exact hq), rfl⟩) (some ⟨d, b, ss⟩) (fun a => by cases a) (fun t et => ?_)⟩
  cases et
  refine ⟨⟨rfl, rfl, hd, by simp, by simp, rfl, rfl, rfl, TW2.mono hB⟩, fun j u hj e2 => ⟨hno j u e2, fun q hq hq2 => ?_⟩⟩
  have a := (TW.lo hq).1
  have b := ((h.ok j u e2).2.tab.lo hq2).2
  omega
end
end Go.Proofs.Qxb6500766a
