/- The stack of raw directories and the cache in the memory. -/
import Derived.Test.Qxb6500766aDb
namespace Go.Proofs.Qxb6500766a
open Go.RowKit Go.Qm
set_option linter.unusedVariables false
abbrev Sys := Nat → Dir
structure StkW (B : Nat) (w : World) (gs : Nat) (vs : List Value) (R : Sys) : Prop where
  A : Arr w gs 96 vs
  len : vs.length = 192
  raw : ∀ d l, d < 24 → l < 8 → ∃ v, vs[d * 8 + l]? = some v ∧ RawO B w v (R d l)
  ok : ∀ d, d < 24 → DirOK (R d)
def rf (vs : List Value) (q : Nat) : Prop := ∃ (i : Nat) (v : Value), vs[i]? = some v ∧ v.ownBlock = some q
section
variable {B : Nat} {w w' : World} {gs : Nat} {vs : List Value} {R : Sys}
theorem StkW.at (h : StkW B w gs vs R) {i : Nat} {v : Value} (hv : vs[i]? = some v) : RawO B w v (R (i / 8) (i % 8)) := by
  have hi : i < 192 := by rw [← h.len]; exact (List.getElem?_eq_some_iff.1 hv).1
  obtain ⟨v', e, r⟩ := h.raw (i / 8) (i % 8) (by omega) (Nat.mod_lt _ (by omega))
  rw [show i / 8 * 8 + i % 8 = i by omega, hv] at e
  cases e
  exact r
theorem StkW.rty (h : StkW B w gs vs R) {q : Nat} (hq : rf vs q) : ∃ cs, Arr w q 62 cs := by
  obtain ⟨i, v, hv, e⟩ := hq
  exact (h.at hv).arr e
theorem StkW.rlo (h : StkW B w gs vs R) {q : Nat} (hq : rf vs q) : B ≤ q ∧ q < w.heap.size := by
  obtain ⟨i, v, hv, e⟩ := hq
  exact (h.at hv).lt q e
theorem StkW.fr (h : StkW B w gs vs R) {P : Nat → Prop} (k : Fr P w w') (h1 : ¬ P gs) (h2 : ∀ q, rf vs q → ¬ P q) : StkW B w' gs vs R :=
  ⟨k.arr h1 h.A, h.len, fun d l hd hl => by
    obtain ⟨v, hv, r⟩ := h.raw d l hd hl
    exact ⟨v, hv, r.fr k (fun q hq => h2 q ⟨_, v, hv, hq⟩)⟩, h.ok⟩
end
structure Tb where
  dir : Nat
  b : Nat
  ss : List Slot
structure ShW (B : Nat) (w : World) (ck : Nat) (R : Sys) (s : Shelf) (t : Tb) : Prop where
  used : s.used = true
  dir : s.dir = t.dir
  d24 : t.dir < 24
  st0 : 0 ≤ s.stamp
  st1 : s.stamp ≤ ck
  sv : s.sv = .slice (some ⟨t.b, 0, none⟩) t.ss.length t.ss.length
  live : s.live = ((LiveL t.ss).length : Nat)
  dead : s.dead = (deadN t.ss : Nat)
  tab : TabW B w t.b t.ss (R t.dir)
structure CW (B : Nat) (w : World) (gs gc ck : Nat) (R : Sys) (sh : List Shelf) (tl : List Value) (G : Nat → Option Tb) : Prop where
  A : Arr w gc 75 (cacheL (.pointer (some ⟨gs, 0, none⟩)) sh tl)
  len : sh.length = 16
  tl : TlOK ck tl
  no : ∀ i, i < 16 → G i = none → shU sh i = false
  ok : ∀ i t, G i = some t → i < 16 ∧ ShW B w ck R (sh.getD i sh0) t
  ap : ∀ i j t u, G i = some t → G j = some u → i ≠ j → ∀ q, tf t.b t.ss q → ¬ tf u.b u.ss q
  ds : ∀ i j t u, G i = some t → G j = some u → t.dir = u.dir → i = j
def cf (gc : Nat) (G : Nat → Option Tb) (q : Nat) : Prop := q = gc ∨ ∃ i t, G i = some t ∧ tf t.b t.ss q
def updG (G : Nat → Option Tb) (i : Nat) (o : Option Tb) : Nat → Option Tb := fun j => if j = i then o else G j
theorem updG_self (G : Nat → Option Tb) (i : Nat) (o : Option Tb) : updG G i o i = o := if_pos rfl
theorem updG_ne (G : Nat → Option Tb) {i j : Nat} (o : Option Tb) (h : j ≠ i) : updG G i o j = G j := if_neg h
theorem TabW.mono {B B' : Nat} {w : World} {b : Nat} {ss : List Slot} {D : Dir} (h : TabW B w b ss D) (hB : B' ≤ B) : TabW B' w b ss D :=
  ⟨h.S, h.tv, h.rt, fun s hs => (h.own s hs).mono hB, h.nd, Nat.le_trans hB h.bB⟩
section
variable {B : Nat} {w w' : World} {gs gc ck : Nat} {R R' : Sys} {sh : List Shelf} {tl : List Value} {G : Nat → Option Tb}
theorem CW.cty (h : CW B w gs gc ck R sh tl G) {q : Nat} (hq : cf gc G q) : ∃ t cs, Arr w q t cs ∧ (t = 75 ∨ t = 88 ∨ t = 64) := by
  rcases hq with rfl | ⟨i, t, e, hq⟩
  · exact ⟨75, _, h.A, Or.inl rfl⟩
  · obtain ⟨t', cs, a, e2⟩ := (h.ok i t e).2.tab.ty hq
    exact ⟨t', cs, a, Or.inr e2⟩
theorem CW.out (h : CW B w gs gc ck R sh tl G) {g : Nat} {t : TypeId} {cs : List Value} (A : Arr w g t cs) (h5 : t ≠ 75) (h8 : t ≠ 88) (h4 : t ≠ 64) : ¬ cf gc G g := by
  intro hq
  obtain ⟨t', cs', A', e⟩ := h.cty hq
  have := A.ty A'
  rcases e with e | e | e
  · exact h5 (this.trans e)
  · exact h8 (this.trans e)
  · exact h4 (this.trans e)
theorem CW.gne (h : CW B w gs gc ck R sh tl G) {i : Nat} {t : Tb} (e : G i = some t) : ¬ tf t.b t.ss gc := (h.ok i t e).2.tab.out h.A (by decide) (by decide)
theorem ShW.fr {s : Shelf} {t : Tb} (h : ShW B w ck R s t) {P : Nat → Prop} (k : Fr P w w') (hp : ∀ q, tf t.b t.ss q → ¬ P q) {ck' : Nat} (hc : ck ≤ ck') (hR : R' t.dir = R t.dir) : ShW B w' ck' R' s t :=
  ⟨h.used, h.dir, h.d24, h.st0, by have := h.st1; omega, h.sv, h.live, h.dead, by rw [hR]; exact h.tab.fr k hp⟩
theorem CW.fr (h : CW B w gs gc ck R sh tl G) {P : Nat → Prop} (k : Fr P w w') (hp : ∀ q, cf gc G q → ¬ P q) : CW B w' gs gc ck R sh tl G :=
  ⟨k.arr (hp gc (Or.inl rfl)) h.A, h.len, h.tl, h.no, fun i t e => ⟨(h.ok i t e).1, (h.ok i t e).2.fr k (fun q hq => hp q (Or.inr ⟨i, t, e, hq⟩)) (Nat.le_refl _) rfl⟩, h.ap, h.ds⟩
theorem CW.keep (h : CW B w gs gc ck R sh tl G) (k : Keep w w') : CW B w' gs gc ck R sh tl G := h.fr (P := fun _ => False) (Fr.keep k) (fun _ _ a => a)
/-- The counters or the clock turn. -/
theorem CW.tlUp (h : CW B w gs gc ck R sh tl G) {tl' : List Value} {ck' : Nat} (A' : Arr w' gc 75 (cacheL (.pointer (some ⟨gs, 0, none⟩)) sh tl')) (ht : TlOK ck' tl') (hc : ck ≤ ck') (gr : w.grownBy w' (some gc)) : CW B w' gs gc ck' R sh tl' G :=
  ⟨A', h.len, ht, h.no, fun i t e => ⟨(h.ok i t e).1, (h.ok i t e).2.fr (Fr.grown (P := fun q => q = gc) gr (fun k hk => (Option.some.inj hk).symm)) (fun q hq a => h.gne e (by rw [← a]; exact hq)) hc rfl⟩, h.ap, h.ds⟩
/-- One shelf turns. -/
theorem CW.upd (h : CW B w gs gc ck R sh tl G) {tl' : List Value} {ck' i : Nat} (hi : i < 16) {s : Shelf} (A' : Arr w' gc 75 (cacheL (.pointer (some ⟨gs, 0, none⟩)) (sh.set i s) tl')) (ht : TlOK ck' tl') (hc : ck ≤ ck')
    {P : Nat → Prop} (k : Fr P w w') (hp : ∀ j u, j ≠ i → G j = some u → (∀ q, tf u.b u.ss q → ¬ P q) ∧ R' u.dir = R u.dir) (o : Option Tb) (ho : o = none → s.used = false)
    (hs : ∀ t, o = some t → ShW B w' ck' R' s t ∧ ∀ j u, j ≠ i → G j = some u → u.dir ≠ t.dir ∧ ∀ q, tf t.b t.ss q → ¬ tf u.b u.ss q) : CW B w' gs gc ck' R' (sh.set i s) tl' (updG G i o) := by
  have gs' : (sh.set i s).getD i sh0 = s := by rw [List.getD_eq_getElem?_getD, List.getElem?_set_self (by rw [h.len]; exact hi)]; rfl
  have gn : ∀ j, j ≠ i → (sh.set i s).getD j sh0 = sh.getD j sh0 := fun j hj => by rw [List.getD_eq_getElem?_getD, List.getElem?_set_ne (fun a => hj a.symm), List.getD_eq_getElem?_getD]
  refine ⟨A', by rw [List.length_set]; exact h.len, ht, ?_, ?_, ?_, ?_⟩
  · intro j hj e
    unfold shU
    by_cases ej : j = i
    · subst ej
      rw [updG_self] at e
      rw [gs']; exact ho e
    · rw [updG_ne G o ej] at e
      rw [gn j ej]; exact h.no j hj e
  · intro j t e
    by_cases ej : j = i
    · subst ej
      rw [updG_self] at e
      rw [gs']; exact ⟨hi, (hs t e).1⟩
    · rw [updG_ne G o ej] at e
      rw [gn j ej]
      exact ⟨(h.ok j t e).1, (h.ok j t e).2.fr k (hp j t ej e).1 hc (hp j t ej e).2⟩
  · intro a b t u ea eb hab q hq
    by_cases ai : a = i
    · subst ai
      rw [updG_self] at ea
      rw [updG_ne G o (Ne.symm hab)] at eb
      exact ((hs t ea).2 b u (Ne.symm hab) eb).2 q hq
    · rw [updG_ne G o ai] at ea
      by_cases bi : b = i
      · subst bi
        rw [updG_self] at eb
        exact fun hq2 => ((hs u eb).2 a t hab ea).2 q hq2 hq
      · rw [updG_ne G o bi] at eb
        exact h.ap a b t u ea eb hab q hq
  · intro a b t u ea eb hd
    by_cases ai : a = i
    · by_cases bi : b = i
      · rw [ai, bi]
      · subst ai
        rw [updG_self] at ea
        rw [updG_ne G o bi] at eb
        exact absurd hd.symm ((hs t ea).2 b u bi eb).1
    · rw [updG_ne G o ai] at ea
      by_cases bi : b = i
      · subst bi
        rw [updG_self] at eb
        exact absurd hd ((hs u eb).2 a t ai ea).1
      · rw [updG_ne G o bi] at eb
        exact h.ds a b t u ea eb hd
theorem CW.used (h : CW B w gs gc ck R sh tl G) {i : Nat} (hi : i < 16) (hu : shU sh i = true) : ∃ t, G i = some t ∧ shD sh i = t.dir := by
  cases e : G i with
  | none => rw [h.no i hi e] at hu; cases hu
  | some t => exact ⟨t, rfl, (h.ok i t e).2.dir⟩
def SeatG (G : Nat → Option Tb) (dir : Int) (e : Ending) : Prop := (∃ (i : Nat) (t : Tb), i < 16 ∧ e = .returned (.int .i64 (i : Int)) ∧ G i = some t ∧ (t.dir : Int) = dir) ∨ (e = .returned (.int .i64 (-1)) ∧ ∀ i t, G i = some t → (t.dir : Int) ≠ dir)
theorem CW.seat (h : CW B w gs gc ck R sh tl G) {dir : Int} {e : Ending} (hs : SeatP (shU sh) (shD sh) dir e) : SeatG G dir e := by
  rcases hs with ⟨i, hi, he, hu, hd, _⟩ | ⟨he, hn⟩
  · obtain ⟨t, ht, hd'⟩ := h.used hi hu
    exact Or.inl ⟨i, t, hi, he, ht, by rw [← hd', hd]⟩
  · refine Or.inr ⟨he, fun i t e hd => ?_⟩
    obtain ⟨hi, ok⟩ := h.ok i t e
    exact hn i hi ⟨ok.used, by unfold shD; rw [ok.dir]; exact hd⟩
theorem seatG_c (dir : Int) (w : World) (h : CW B w gs gc ck R sh tl G) : Calls Try.prog 40 #[.pointer (some ⟨gc, 0, none⟩), .int .i64 dir] w fun e w' => SeatG G dir e ∧ w' = w :=
  (seatL_c gc _ sh tl dir w h.A h.len).mono (fun e w' q => ⟨h.seat q.1, q.2⟩)
/-- The shelf's cells of its table. -/
theorem CW.cells (h : CW B w gs gc ck R sh tl G) {i : Nat} {t : Tb} (e : G i = some t) : TabC (cacheL (.pointer (some ⟨gs, 0, none⟩)) sh tl) (1 + i * 6 + 3) t.b t.ss.length (LiveL t.ss).length (deadN t.ss) := by
  obtain ⟨hi, ok⟩ := h.ok i t e
  have hl := h.len
  have hg : sh.getD i sh0 = sh[i] := by rw [List.getD_eq_getElem?_getD, List.getElem?_eq_getElem (by omega)]; rfl
  rw [hg] at ok
  refine ⟨?_, ?_, ?_⟩
  · rw [cacheL_get _ sh tl i 3 (by omega) (by omega), ← ok.sv]; rfl
  · rw [show 1 + i * 6 + 3 + 1 = 1 + i * 6 + 4 by omega, cacheL_get _ sh tl i 4 (by omega) (by omega), ← ok.live]; rfl
  · rw [show 1 + i * 6 + 3 + 2 = 1 + i * 6 + 5 by omega, cacheL_get _ sh tl i 5 (by omega) (by omega), ← ok.dead]; rfl
theorem CW.tcell (h : CW B w gs gc ck R sh tl G) {i : Nat} {t : Tb} (e : G i = some t) : w.cell? ⟨gc, 1 + i * 6 + 3, none⟩ = some (.slice (some ⟨t.b, 0, none⟩) t.ss.length t.ss.length) := (Go.Qm.Arr.cell h.A _).trans (h.cells e).c0
end
end Go.Proofs.Qxb6500766a
