/- The stack and the cache as one: Evict, Rebuild, DropAll, Add and Remove with what the cache is told. -/
import Derived.Test.Qxb6500766aDi
import Derived.Test.Qxb6500766aDj
namespace Go.Proofs.Qxb6500766a
open Go.RowKit Go.Qm
set_option linter.unusedVariables false
set_option linter.unusedSimpArgs false
attribute [local go_sem ↓] Go.wp_at_zero Go.wp_at_succ
section
variable {B : Nat} {fp : Nat → Prop} {w w' : World} {gs gc N : Nat} {R : Sys}
theorem evictW (d : Nat) (h : WW B fp w gs gc N R) (hd : d < 24) :
    Calls Try.prog 31 #[.pointer (some ⟨gc, 0, none⟩), .int .i64 d] w fun e w' => RetW B fp w gs gc N R (.returned (.int .i64 0)) e w' := by
  obtain ⟨ck, vs, sh, tl, G, hc, S, C, hf⟩ := h.ex
  refine (evict_c gc _ sh tl d w C.A C.len (by simp [dirB]; omega)).mono ?_
  rintro e w' ⟨rfl, sh', A', gr, hcase⟩
  have S' := S.grownC C gr
  rcases hcase with ⟨i, hi, _, _, _, rfl⟩ | ⟨_, rfl⟩
  · have C' := C.upd (R' := R) hi A' C.tl (Nat.le_refl _) (grown_fr gr) (fun j u hj e2 => ⟨fun q hq a => C.gne e2 (by rw [← a]; exact hq), rfl⟩) none (fun _ => rfl) (fun t et => by cases et)
    refine ⟨_, rfl, WW.of S' C' hc h.gsB h.gcB, (grown_fr gr).mono (fun q _ e => (hf q).2 (Or.inr (Or.inr (Or.inl e)))), ?_⟩
    rintro q (a | a | a | ⟨j, u, e2, a⟩)
    · exact Or.inl ((hf q).2 (Or.inl a))
    · exact Or.inl ((hf q).2 (Or.inr (Or.inl a)))
    · exact Or.inl ((hf q).2 (Or.inr (Or.inr (Or.inl a))))
    · by_cases ej : j = i
      · subst ej; rw [updG_self] at e2; cases e2
      · rw [updG_ne G none ej] at e2
        exact Or.inl ((hf q).2 (Or.inr (Or.inr (Or.inr ⟨j, u, e2, a⟩))))
  · have C' := C.tlUp A' C.tl (Nat.le_refl _) gr
    exact ⟨fp, rfl, ⟨⟨ck, vs, sh', tl, G, hc, S', C', hf⟩, h.gsB, h.gcB⟩, (grown_fr gr).mono (fun q _ e => (hf q).2 (Or.inr (Or.inr (Or.inl e)))), fun _ a => Or.inl a⟩
theorem rebuildW (d : Nat) (h : WW B fp w gs gc N R) (hd : d < 24) (hN : N ≤ 1000000000000) :
    Calls Try.prog 32 #[.pointer (some ⟨gc, 0, none⟩), .int .i64 d] w fun e w' => RetW B fp w gs gc (N + 1) R (.returned (.int .i64 0)) e w' := by
  have EV := evictW d h hd
  go_enter Try.func32, Try.ntmps32
  go_wp2_with fail
  refine EV.mono ?_
  rintro e w1 ⟨fp1, rfl, W1, st1⟩
  have FC := fetchW d W1 hd hN
  go_wp2_with fail
  refine FC.mono ?_
  rintro e w2 ⟨i, t, fp', rfl, W2, st2, hdt, TW, cT, cL⟩
  go_wp2_with fail
  go_ret
  exact ⟨fp', rfl, W2, st1.trans st2⟩
theorem rebuildBad (d : Int) (p : Value) (w : World) (hd : dirB d = false) : Calls Try.prog 32 #[p, .int .i64 d] w fun e w' => e = .returned (.int .i64 1) ∧ w' = w := by
  have EV := evict_bad_c p d w hd
  go_enter Try.func32, Try.ntmps32
  go_wp2_with fail
  refine EV.mono ?_
  rintro e w1 ⟨rfl, rfl⟩
  go_wp2_with fail
  go_ret
  exact ⟨rfl, rfl⟩
theorem rep_get (i : Nat) : (List.replicate 16 sh0).getD i sh0 = sh0 := by
  rw [List.getD_eq_getElem?_getD, List.getElem?_replicate]
  split <;> rfl
theorem CW.empty {ck : Nat} {tl : List Value} (A : Arr w gc 75 (cacheL (.pointer (some ⟨gs, 0, none⟩)) (List.replicate 16 sh0) tl)) (ht : TlOK ck tl) : CW B w gs gc ck R (List.replicate 16 sh0) tl (fun _ => none) :=
  ⟨A, by simp, ht, fun i _ _ => (by unfold shU; rw [rep_get]; rfl), fun i t e => (by cases e), fun i j t u e => (by cases e), fun i j t u e => (by cases e)⟩
theorem dropAllW (h : WW B fp w gs gc N R) :
    Calls Try.prog 14 #[.pointer (some ⟨gc, 0, none⟩)] w fun e w' => RetW B fp w gs gc N R (.returned (.tuple #[])) e w' := by
  obtain ⟨ck, vs, sh, tl, G, hc, S, C, hf⟩ := h.ex
  refine (dropAll_c gc _ sh tl w C.A C.len).mono ?_
  rintro e w' ⟨rfl, A', gr⟩
  refine ⟨_, rfl, WW.of (S.grownC C gr) (CW.empty A' C.tl) hc h.gsB h.gcB, (grown_fr gr).mono (fun q _ e => (hf q).2 (Or.inr (Or.inr (Or.inl e)))), ?_⟩
  rintro q (a | a | a | ⟨j, u, e2, a⟩)
  · exact Or.inl ((hf q).2 (Or.inl a))
  · exact Or.inl ((hf q).2 (Or.inr (Or.inl a)))
  · exact Or.inl ((hf q).2 (Or.inr (Or.inr (Or.inl a))))
  · cases e2
/-- Behind a change of one raw directory: the stack is ahead of the cache. -/
structure HW (B : Nat) (fp : Nat → Prop) (w : World) (gs gc N : Nat) (R R' : Sys) : Prop where
  ex : ∃ ck vs sh tl G, ck ≤ N ∧ StkW B w gs vs R' ∧ CW B w gs gc ck R sh tl G ∧ ∀ q, fp q ↔ FP gs gc vs G q
  gsB : B ≤ gs
  gcB : B ≤ gc
theorem HW.keep {R' : Sys} (h : HW B fp w gs gc N R R') (k : Keep w w') : HW B fp w' gs gc N R R' := by
  obtain ⟨ck, vs, sh, tl, G, hc, S, C, hf⟩ := h.ex
  exact ⟨⟨ck, vs, sh, tl, G, hc, S.fr (P := fun _ => False) (Fr.keep k) (fun a => a) (fun _ _ a => a), C.keep k, hf⟩, h.gsB, h.gcB⟩
theorem dirOK_ins {D : Dir} (h : DirOK D) {l : Nat} (hl : l < 8) {x : RawE} (hh : hasR x.1 (D l) = false) (hlen : (D l).length < 12) (hx : x.1.length ≤ 1000000) : DirOK (updD D l (insR x (D l))) := by
  refine ⟨fun i hi => ?_, fun i hi => ?_, fun i hi r hr => ?_⟩
  · by_cases e : i = l
    · subst e; rw [updD_self]; exact (h.srt i hi).ins hh
    · rw [updD_ne D _ e]; exact h.srt i hi
  · by_cases e : i = l
    · subst e; rw [updD_self, insR_len]; omega
    · rw [updD_ne D _ e]; exact h.len i hi
  · by_cases e : i = l
    · subst e
      rw [updD_self, mem_insR] at hr
      rcases hr with rfl | hr
      · exact hx
      · exact h.nm i hi r hr
    · rw [updD_ne D _ e] at hr; exact h.nm i hi r hr
theorem dirOK_out {D : Dir} (h : DirOK D) {l : Nat} (hl : l < 8) (name : List UInt8) : DirOK (updD D l (outR name (D l))) := by
  refine ⟨fun i hi => ?_, fun i hi => ?_, fun i hi r hr => ?_⟩
  · by_cases e : i = l
    · subst e; rw [updD_self]; exact (h.srt i hi).out
    · rw [updD_ne D _ e]; exact h.srt i hi
  · by_cases e : i = l
    · subst e; rw [updD_self]; exact Nat.le_trans (out_le name _) (h.len i hi)
    · rw [updD_ne D _ e]; exact h.len i hi
  · by_cases e : i = l
    · subst e
      rw [updD_self] at hr
      exact h.nm i hi r (List.mem_filter.1 hr).1
    · rw [updD_ne D _ e] at hr; exact h.nm i hi r hr
/-- The stack's block has turned in one place. -/
theorem StkW.setD {vs : List Value} {d l : Nat} (S : StkW B w gs vs R) (hd : d < 24) (hl : l < 8) {v : Value} {rs : List RawE} (hB : B ≤ w.heap.size) (hv : RawO w.heap.size w' v rs) (A' : Arr w' gs 96 (vs.set (d * 8 + l) v)) (gr : w.grownBy w' (some gs)) (hok : DirOK (updD (R d) l rs)) : StkW B w' gs (vs.set (d * 8 + l) v) (updS R d (updD (R d) l rs)) := by
  refine ⟨A', by rw [List.length_set]; exact S.len, fun a b ha hb => ?_, fun a ha => ?_⟩
  · by_cases e : a * 8 + b = d * 8 + l
    · have e1 : a = d := by omega
      have e2 : b = l := by omega
      subst e1; subst e2
      refine ⟨v, List.getElem?_set_self (by rw [S.len]; omega), ?_⟩
      rw [updS_self, updD_self]
      exact hv.mono hB
    · obtain ⟨u, hu, r⟩ := S.raw a b ha hb
      refine ⟨u, by rw [List.getElem?_set_ne (fun x => e x.symm)]; exact hu, ?_⟩
      have : updS R d (updD (R d) l rs) a b = R a b := by
        by_cases e1 : a = d
        · subst e1; rw [updS_self, updD_ne _ _ (by omega)]
        · rw [updS_ne R _ e1]
      rw [this]
      refine r.fr (grown_fr gr) (fun q hq a => ?_)
      subst a
      obtain ⟨cur, hc⟩ := r.arr hq
      exact absurd (hc.ty S.A) (by decide)
  · by_cases e1 : a = d
    · subst e1; rw [updS_self]; exact hok
    · rw [updS_ne R _ e1]; exact S.ok a ha
def AddW (B : Nat) (fp : Nat → Prop) (w : World) (gs gc N d l : Nat) (R : Sys) (name : List UInt8) (kind : Int) (e : Ending) (w' : World) : Prop :=
  (hasR name (R d l) = true ∧ e = .returned (.int .i64 2) ∧ WW B fp w' gs gc N R ∧ Stp fp fp w w') ∨ (hasR name (R d l) = false ∧ 12 ≤ (R d l).length ∧ e = .returned (.int .i64 3) ∧ WW B fp w' gs gc N R ∧ Stp fp fp w w') ∨
  (hasR name (R d l) = false ∧ (R d l).length < 12 ∧ e = .returned (.int .i64 0) ∧ ∃ fp', HW B fp' w' gs gc N R (addS R d l (name, kind)) ∧ Stp fp fp' w w')
theorem FP_set {vs : List Value} {G : Nat → Option Tb} {i : Nat} {v : Value} (hv : ∀ q, v.ownBlock = some q → w.heap.size ≤ q) {q : Nat} (h : FP gs gc (vs.set i v) G q) : FP gs gc vs G q ∨ w.heap.size ≤ q := by
  rcases h with a | ⟨j, u, hu, a⟩ | a
  · exact Or.inl (Or.inl a)
  · by_cases e : i = j
    · subst e
      rw [List.getElem?_set] at hu
      split at hu
      · split at hu
        · cases hu; exact Or.inr (hv q a)
        · cases hu
      · exact Or.inl (Or.inr (Or.inl ⟨i, u, hu, a⟩))
    · rw [List.getElem?_set_ne e] at hu
      exact Or.inl (Or.inr (Or.inl ⟨j, u, hu, a⟩))
  · exact Or.inl (Or.inr (Or.inr a))
theorem addW (d l : Nat) (name : List UInt8) (kind : Int) (h : WW B fp w gs gc N R) (hd : d < 24) (hl : l < 8) (hne : name ≠ []) (hk1 : 1 ≤ kind) (hk4 : kind ≤ 4) (hnl : name.length ≤ 1000000) :
    Calls Try.prog 26 #[.pointer (some ⟨gs, 0, none⟩), .int .i64 d, .int .i64 l, str name, .int .i64 kind] w fun e w' => AddW B fp w gs gc N d l R name kind e w' := by
  obtain ⟨ck, vs, sh, tl, G, hc, S, C, hf⟩ := h.ex
  obtain ⟨v, hv, r⟩ := S.raw d l hd hl
  have DK := S.ok d hd
  refine (add_c B gs 96 d l vs v (R d l) name kind w S.A hv r hd hl (by have := DK.len l hl; omega) hne hk1 hk4 hnl (DK.nm l hl)).mono ?_
  rintro e w' (⟨h1, rfl, k⟩ | ⟨h1, h2, rfl, k⟩ | ⟨h1, h2, rfl, v', r', _, A', gr⟩)
  · exact Or.inl ⟨h1, rfl, h.keep k, Stp.keep k⟩
  · exact Or.inr (Or.inl ⟨h1, h2, rfl, h.keep k, Stp.keep k⟩)
  · have S' := S.setD hd hl h.base r' A' gr (dirOK_ins DK hl (x := (name, kind)) h1 h2 hnl)
    have C' := C.fr (grown_fr gr) (fun q hq a => C.out S.A (by decide) (by decide) (by decide) (by rw [← a]; exact hq))
    exact Or.inr (Or.inr ⟨h1, h2, rfl, _, ⟨⟨ck, _, sh, tl, G, hc, S', C', fun _ => Iff.rfl⟩, h.gsB, h.gcB⟩, (grown_fr gr).mono (fun q _ e => (hf q).2 (Or.inl e)), fun q hq => (FP_set (fun q hq => (r'.lt q hq).1) hq).imp (fun a => (hf q).2 a) id⟩)
theorem noteAddW (d l : Nat) (x : RawE) (h : HW B fp w gs gc N R (addS R d l x)) (DK : DirOK (R d)) (hl : l < 8) (hh : hasR x.1 (R d l) = false) (hx : x.1.length ≤ 1000000) :
    Calls Try.prog 27 #[.pointer (some ⟨gc, 0, none⟩), .int .i64 d, .int .i64 l, str x.1, .int .i64 x.2] w fun e w' => RetW B fp w gs gc N (addS R d l x) (.returned (.tuple #[])) e w' := by
  obtain ⟨ck, vs, sh, tl, G, hc, S, C, hf⟩ := h.ex
  refine (noteAdd_c d l x C DK hl hh hx).mono ?_
  rintro e w' ⟨rfl, sh', tl', G', C', fr, hq⟩
  refine ⟨_, rfl, WW.of (S.apart C fr) C' hc h.gsB h.gcB, fr.mono (fun q _ e => (hf q).2 (Or.inr (Or.inr e))), ?_⟩
  rintro q (a | a | a)
  · exact Or.inl ((hf q).2 (Or.inl a))
  · exact Or.inl ((hf q).2 (Or.inr (Or.inl a)))
  · exact (hq q a).imp (fun b => (hf q).2 (Or.inr (Or.inr b))) id
def RemW (B : Nat) (fp : Nat → Prop) (w : World) (gs gc N d l : Nat) (R : Sys) (name : List UInt8) (e : Ending) (w' : World) : Prop :=
  (hasR name (R d l) = false ∧ e = .returned (.int .i64 4) ∧ WW B fp w' gs gc N R ∧ Stp fp fp w w') ∨
  (hasR name (R d l) = true ∧ e = .returned (.int .i64 0) ∧ ∃ fp', HW B fp' w' gs gc N R (outS R d l name) ∧ Stp fp fp' w w')
theorem out_has {name : List UInt8} : ∀ {rs : List RawE}, (outR name rs).length = rs.length ↔ hasR name rs = false := by
  intro rs
  unfold outR hasR
  rw [List.length_filter_eq_length_iff, List.any_eq_false]
  simp
theorem removeW (d l : Nat) (name : List UInt8) (h : WW B fp w gs gc N R) (hd : d < 24) (hl : l < 8) (hne : name ≠ []) :
    Calls Try.prog 28 #[.pointer (some ⟨gs, 0, none⟩), .int .i64 d, .int .i64 l, str name] w fun e w' => RemW B fp w gs gc N d l R name e w' := by
  obtain ⟨ck, vs, sh, tl, G, hc, S, C, hf⟩ := h.ex
  obtain ⟨v, hv, r⟩ := S.raw d l hd hl
  have DK := S.ok d hd
  refine (remove_c B gs 96 d l vs v (R d l) name w S.A hv r hd hl (by have := DK.len l hl; omega) hne).mono ?_
  rintro e w' (⟨h1, rfl, k⟩ | ⟨h1, rfl, v', r', _, A', gr⟩)
  · exact Or.inl ⟨out_has.1 h1, rfl, h.keep k, Stp.keep k⟩
  · have hh : hasR name (R d l) = true := by
      cases e : hasR name (R d l) with
      | true => rfl
      | false => exact absurd (out_has.2 e) h1
    have S' := S.setD hd hl h.base r' A' gr (dirOK_out DK hl name)
    have C' := C.fr (grown_fr gr) (fun q hq a => C.out S.A (by decide) (by decide) (by decide) (by rw [← a]; exact hq))
    exact Or.inr ⟨hh, rfl, _, ⟨⟨ck, _, sh, tl, G, hc, S', C', fun _ => Iff.rfl⟩, h.gsB, h.gcB⟩, (grown_fr gr).mono (fun q _ e => (hf q).2 (Or.inl e)), fun q hq => (FP_set (fun q hq => (r'.lt q hq).1) hq).imp (fun a => (hf q).2 a) id⟩
theorem noteRemoveW (d l : Nat) (name : List UInt8) (h : HW B fp w gs gc N R (outS R d l name)) (DK : DirOK (R d)) (hl : l < 8) (hh : hasR name (R d l) = true) (hx : name.length ≤ 1000000) :
    Calls Try.prog 29 #[.pointer (some ⟨gc, 0, none⟩), .int .i64 d, .int .i64 l, str name] w fun e w' => RetW B fp w gs gc N (outS R d l name) (.returned (.tuple #[])) e w' := by
  obtain ⟨ck, vs, sh, tl, G, hc, S, C, hf⟩ := h.ex
  refine (noteRemove_c d l name C DK hl hh hx).mono ?_
  rintro e w' ⟨rfl, sh', tl', G', C', fr, hq⟩
  refine ⟨_, rfl, WW.of (S.apart C fr) C' hc h.gsB h.gcB, fr.mono (fun q _ e => (hf q).2 (Or.inr (Or.inr e))), ?_⟩
  rintro q (a | a | a)
  · exact Or.inl ((hf q).2 (Or.inl a))
  · exact Or.inl ((hf q).2 (Or.inr (Or.inl a)))
  · exact (hq q a).imp (fun b => (hf q).2 (Or.inr (Or.inr b))) id
end
end Go.Proofs.Qxb6500766a
