/- The cache: put and drop in the table of one shelf. -/
import Derived.Test.Qxb6500766aDf
namespace Go.Proofs.Qxb6500766a
open Go.RowKit Go.Qm
set_option linter.unusedVariables false
def updS (R : Sys) (d : Nat) (D : Dir) : Sys := fun i => if i = d then D else R i
theorem updS_self (R : Sys) (d : Nat) (D : Dir) : updS R d D d = D := if_pos rfl
theorem updS_ne (R : Sys) {d i : Nat} (D : Dir) (h : i ≠ d) : updS R d D i = R i := if_neg h
def addS (R : Sys) (d l : Nat) (x : RawE) : Sys := updS R d (updD (R d) l (insR x (R d l)))
def outS (R : Sys) (d l : Nat) (name : List UInt8) : Sys := updS R d (updD (R d) l (outR name (R d l)))
theorem fr_in {P Q : Nat → Prop} {w w' : World} (h : Fr P w w') (k : ∀ q, P q → Q q) : Fr Q w w' := h.mono (fun q _ a => k q a)
section
variable {B : Nat} {w w' : World} {gs gc ck : Nat} {R R' : Sys} {sh : List Shelf} {tl : List Value} {G : Nat → Option Tb}
theorem CW.re (h : CW B w gs gc ck R sh tl G) (hr : ∀ i t, G i = some t → TabW B w t.b t.ss (R' t.dir)) : CW B w gs gc ck R' sh tl G :=
  ⟨h.A, h.len, h.tl, h.no, fun i t e => ⟨(h.ok i t e).1, let s := (h.ok i t e).2; ⟨s.used, s.dir, s.d24, s.st0, s.st1, s.sv, s.live, s.dead, hr i t e⟩⟩, h.ap, h.ds⟩
theorem CW.re_no (h : CW B w gs gc ck R sh tl G) {d : Nat} (hn : ∀ i t, G i = some t → t.dir ≠ d) (D : Dir) : CW B w gs gc ck (updS R d D) sh tl G :=
  h.re (fun i t e => by rw [updS_ne R D (hn i t e)]; exact (h.ok i t e).2.tab)
theorem CW.re_one (h : CW B w gs gc ck R sh tl G) {i : Nat} {t : Tb} (e : G i = some t) {D : Dir} (hr : Right (LiveL t.ss) D) : CW B w gs gc ck (updS R t.dir D) sh tl G :=
  h.re (fun j u e2 => by
    by_cases ed : u.dir = t.dir
    · have := h.ds j i u t e2 e ed
      subst this
      rw [e] at e2
      cases e2
      rw [updS_self]
      have a := (h.ok j t e).2.tab
      exact ⟨a.S, a.tv, hr, a.own, a.nd, a.bB⟩
    · rw [updS_ne R D ed]
      exact (h.ok j u e2).2.tab)
theorem CW.put (h : CW B w gs gc ck R sh tl G) {i : Nat} {t : Tb} (e : G i = some t) {l : Nat} (hl : l < 8) {x : RawE} {k : List UInt8} (DK : DirOK (R t.dir)) (hk : keyF x.1 = some k) (hh : hasR x.1 (R t.dir l) = false) :
    Calls Try.prog 46 #[.pointer (some ⟨gc, 1 + i * 6 + 3, none⟩), str k, .agg #[.int .i64 (l : Int), str x.1, .int .i64 x.2], .pointer (some ⟨gc, 98, none⟩)] w fun r w' => r = .returned (.tuple #[]) ∧
      ∃ sh' tl' G', CW B w' gs gc ck (addS R t.dir l x) sh' tl' G' ∧ Fr (cf gc G) w w' ∧ ∀ q, cf gc G' q → cf gc G q ∨ w.heap.size ≤ q := by
  obtain ⟨hi, ok⟩ := h.ok i t e
  refine (put_tab B 75 gc (1 + i * 6 + 3) t.b (LiveL t.ss).length (deadN t.ss) 75 gc 98 _ _ t.ss (R t.dir) l x k w h.A h.A (fun _ => ⟨by omega, rfl⟩) (h.cells e) (stat_cache h.len h.tl) rfl rfl ok.tab DK hl hk hh (by decide)).mono ?_
  rintro r w' ⟨b', live', dead', ss', cs', cS', rfl, A', AS', T', sc', so', sS', rfl, rfl, TW', fr, tfn⟩
  have ecs : cs' = cS' := by
    have a := A'
    unfold Arr at a AS'
    rw [a] at AS'
    simp only [Option.some.injEq, Obj.cells.injEq] at AS'
    exact List.toArray_inj AS'.1
  subst ecs
  obtain ⟨tl2, ht2, rfl⟩ := cache_shelf h.len hi h.tl so'.1 (fun j a0 a1 a2 a3 a4 a5 => so'.2 j a0 a1 a2 (fun _ => ⟨a3, a4, a5⟩)) sc' T'
  refine ⟨rfl, _, tl2, updG G i (some ⟨t.dir, b', ss'⟩), h.upd (R' := addS R t.dir l x) hi A' ht2 (Nat.le_refl _) fr (fun j u hj e2 => ⟨?_, ?_⟩) (some ⟨t.dir, b', ss'⟩) (fun a => by cases a) (fun t' et => ?_), fr_in fr ?_, ?_⟩
  · rintro q hq (rfl | rfl | a)
    · exact h.gne e2 hq
    · exact h.gne e2 hq
    · exact h.ap i j t u e e2 (Ne.symm hj) q a hq
  · exact updS_ne R _ (fun a => hj (h.ds j i u t e2 e a))
  · cases et
    refine ⟨⟨ok.used, ok.dir, ok.d24, ok.st0, ok.st1, rfl, rfl, rfl, ?_⟩, fun j u hj e2 => ⟨fun a => hj (h.ds j i u t e2 e a), fun q hq hq2 => ?_⟩⟩
    · show TabW B w' b' ss' (addS R t.dir l x t.dir)
      unfold addS
      rw [updS_self]
      exact TW'
    · rcases tfn q hq with a | a
      · exact h.ap i j t u e e2 (Ne.symm hj) q a hq2
      · have := ((h.ok j u e2).2.tab.lo hq2).2
        omega
  · rintro q (a | a | a)
    · exact Or.inl a
    · exact Or.inl a
    · exact Or.inr ⟨i, t, e, a⟩
  · rintro q (a | ⟨j, u, e2, a⟩)
    · exact Or.inl (Or.inl a)
    · by_cases ej : j = i
      · subst ej
        rw [updG_self] at e2
        cases e2
        rcases tfn q a with b | b
        · exact Or.inl (Or.inr ⟨j, t, e, b⟩)
        · exact Or.inr b
      · rw [updG_ne G _ ej] at e2
        exact Or.inl (Or.inr ⟨j, u, e2, a⟩)
theorem CW.drop (h : CW B w gs gc ck R sh tl G) {i : Nat} {t : Tb} (e : G i = some t) {l : Nat} (hl : l < 8) {name k : List UInt8} (DK : DirOK (R t.dir)) (hk : keyF name = some k) (hh : hasR name (R t.dir l) = true) :
    Calls Try.prog 47 #[.pointer (some ⟨gc, 1 + i * 6 + 3, none⟩), str k, .int .i64 (l : Int), str name] w fun r w' => r = .returned (.tuple #[]) ∧
      ∃ sh' tl' G', CW B w' gs gc ck (outS R t.dir l name) sh' tl' G' ∧ Fr (cf gc G) w w' ∧ ∀ q, cf gc G' q → cf gc G q ∨ w.heap.size ≤ q := by
  obtain ⟨hi, ok⟩ := h.ok i t e
  refine (drop_tab B 75 gc (1 + i * 6 + 3) t.b (LiveL t.ss).length (deadN t.ss) _ t.ss (R t.dir) l name k w h.A (h.cells e) rfl rfl ok.tab DK hl hk hh (by decide)).mono ?_
  rintro r w' ⟨live', dead', ss', cs', rfl, A', T', l1, so', rfl, rfl, TW', fr, tfn⟩
  obtain ⟨x3, x4, x5, y3, y4, y5⟩ := stat_cache (src := .pointer (some ⟨gs, 0, none⟩)) h.len h.tl
  have sc' : StatC cs' 98 := ⟨x3, x4, x5, by rw [so' _ (by omega) (by omega) (by omega)]; exact y3, by rw [so' _ (by omega) (by omega) (by omega)]; exact y4, by rw [so' _ (by omega) (by omega) (by omega)]; exact y5⟩
  obtain ⟨tl2, ht2, rfl⟩ := cache_shelf h.len hi h.tl l1 (fun j a0 a1 a2 a3 a4 a5 => so' j a0 a1 a2) sc' T'
  refine ⟨rfl, _, tl2, updG G i (some ⟨t.dir, t.b, ss'⟩), h.upd (R' := outS R t.dir l name) hi A' ht2 (Nat.le_refl _) fr (fun j u hj e2 => ⟨?_, ?_⟩) (some ⟨t.dir, t.b, ss'⟩) (fun a => by cases a) (fun t' et => ?_), fr_in fr ?_, ?_⟩
  · rintro q hq (rfl | a)
    · exact h.gne e2 hq
    · exact h.ap i j t u e e2 (Ne.symm hj) q a hq
  · exact updS_ne R _ (fun a => hj (h.ds j i u t e2 e a))
  · cases et
    refine ⟨⟨ok.used, ok.dir, ok.d24, ok.st0, ok.st1, rfl, rfl, rfl, ?_⟩, fun j u hj e2 => ⟨fun a => hj (h.ds j i u t e2 e a), fun q hq hq2 => ?_⟩⟩
    · show TabW B w' t.b ss' (outS R t.dir l name t.dir)
      unfold outS
      rw [updS_self]
      exact TW'
    · exact h.ap i j t u e e2 (Ne.symm hj) q (tfn q hq) hq2
  · rintro q (a | a)
    · exact Or.inl a
    · exact Or.inr ⟨i, t, e, a⟩
  · rintro q (a | ⟨j, u, e2, a⟩)
    · exact Or.inl (Or.inl a)
    · by_cases ej : j = i
      · subst ej
        rw [updG_self] at e2
        cases e2
        exact Or.inl (Or.inr ⟨j, t, e, tfn q a⟩)
      · rw [updG_ne G _ ej] at e2
        exact Or.inl (Or.inr ⟨j, u, e2, a⟩)
end
end Go.Proofs.Qxb6500766a
