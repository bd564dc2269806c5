/- foldindex: build, what stands while the table is filled. -/
import Derived.Test.Qxb6500766aDc
namespace Go.Proofs.Qxb6500766a
open Go.RowKit Go.Qm
set_option linter.unusedVariables false
def partD (D : Dir) (k i : Nat) : Dir := fun l => if l < k then D l else if l = k then (D l).take i else []
theorem SrtR.take {rs : List RawE} (h : SrtR rs) (i : Nat) : SrtR (rs.take i) := List.Pairwise.sublist (List.take_sublist i rs) h
theorem partD_at (D : Dir) (k i : Nat) : partD D k i k = (D k).take i := by unfold partD; rw [if_neg (by omega), if_pos rfl]
theorem partD_ok {D : Dir} (h : DirOK D) (k i : Nat) : DirOK (partD D k i) := by
  refine ⟨fun l hl => ?_, fun l hl => ?_, fun l hl r hr => ?_⟩
  · unfold partD
    split
    · exact h.srt l hl
    · split
      · exact (h.srt l hl).take i
      · exact List.Pairwise.nil
  · unfold partD
    split
    · exact h.len l hl
    · split
      · rw [List.length_take]; have := h.len l hl; omega
      · simp
  · unfold partD at hr
    split at hr
    · exact h.nm l hl r hr
    · split at hr
      · exact h.nm l hl r (List.mem_of_mem_take hr)
      · simp at hr
theorem part_has {rs : List RawE} (h : SrtR rs) {i : Nat} (hi : i < rs.length) : hasR rs[i].1 (rs.take i) = false := by
  rw [hasR_false]
  intro r hr e
  obtain ⟨j, hj, rfl⟩ := List.mem_iff_getElem.1 hr
  rw [List.length_take] at hj
  rw [List.getElem_take] at e
  unfold SrtR at h
  rw [List.pairwise_iff_getElem] at h
  have := h j i (by omega) hi (by omega)
  rw [e, lessB_irrefl] at this
  cases this
theorem part_ins {rs : List RawE} (h : SrtR rs) {i : Nat} (hi : i < rs.length) : insR rs[i] (rs.take i) = rs.take (i + 1) := by
  rw [List.take_succ_eq_append_getElem hi]
  refine SrtR.snoc ?_
  rw [← List.take_succ_eq_append_getElem hi]
  exact h.take _
theorem part_upd {D : Dir} {k i : Nat} (h : SrtR (D k)) (hi : i < (D k).length) : ∀ l, l < 8 → updD (partD D k i) k (insR (D k)[i] (partD D k i k)) l = partD D k (i + 1) l := by
  intro l hl
  rw [partD_at, part_ins h hi]
  unfold updD partD
  by_cases e : l = k
  · subst e; simp
  · simp [e]
theorem part_next (D : Dir) (k : Nat) : ∀ l, l < 8 → partD D k (D k).length l = partD D (k + 1) 0 l := by
  intro l hl
  unfold partD
  by_cases h1 : l < k
  · rw [if_pos h1, if_pos (by omega)]
  · rw [if_neg h1]
    by_cases h2 : l = k
    · subst h2
      rw [if_pos rfl, if_pos (by omega), List.take_length]
    · rw [if_neg h2, if_neg (by omega)]
      split <;> simp
theorem part_end (D : Dir) : ∀ l, l < 8 → partD D 8 0 l = D l := by
  intro l hl
  unfold partD
  rw [if_pos hl]
theorem part_start (D : Dir) : ∀ l, l < 8 → partD D 0 0 l = [] := by
  intro l hl
  unfold partD
  rw [if_neg (by omega)]
  split <;> simp
/-- What stands while build fills its table. -/
structure BI (w : World) (gc gA gL gt : Nat) (src : Value) (sh : List Shelf) (ck : Int) (D : Dir) (vl : List Value) (E : Dir) (W : World) : Prop where
  ex : ∃ b ss tl', Arr W gt 68 [.slice (some ⟨b, 0, none⟩) ss.length ss.length, .int .i64 ((LiveL ss).length : Nat), .int .i64 (deadN ss : Nat)] ∧ TabW w.heap.size W b ss E ∧ Arr W gc 75 (cacheL src sh tl') ∧ TlOK ck tl'
  AA : Arr W gA 68 [.slice none 0 0, .int .i64 0, .int .i64 0]
  AL : Arr W gL 93 vl
  raw : ∀ l, l < 8 → ∃ v, vl[l]? = some v ∧ RawO w.heap.size W v (D l)
  gr : w.grownBy W (some gc)
section
variable {w W W' : World} {gc gA gL gt : Nat} {src : Value} {sh : List Shelf} {ck : Int} {D : Dir} {vl : List Value} {E E' : Dir}
theorem BI.congr (h : BI w gc gA gL gt src sh ck D vl E W) (e : ∀ l, l < 8 → E l = E' l) : BI w gc gA gL gt src sh ck D vl E' W := by
  obtain ⟨b, ss, tl', a1, a2, a3, a4⟩ := h.ex
  exact ⟨⟨b, ss, tl', a1, a2.congr e, a3, a4⟩, h.AA, h.AL, h.raw, h.gr⟩
theorem BI.keep (h : BI w gc gA gL gt src sh ck D vl E W) (k : Keep W W') : BI w gc gA gL gt src sh ck D vl E W' := by
  obtain ⟨b, ss, tl', a1, a2, a3, a4⟩ := h.ex
  exact ⟨⟨b, ss, tl', a1.keep k, a2.keep k, a3.keep k, a4⟩, h.AA.keep k, h.AL.keep k, fun l hl => by obtain ⟨v, e, r⟩ := h.raw l hl; exact ⟨v, e, r.keep k⟩, grown_keep h.gr k⟩
theorem BI.skip (h : BI w gc gA gL gt src sh ck D vl E W) {l : Nat} (hl : l < 8) {x : RawE} (hk : keyF x.1 = none) : BI w gc gA gL gt src sh ck D vl (updD E l (insR x (E l))) W := by
  obtain ⟨b, ss, tl', a1, a2, a3, a4⟩ := h.ex
  exact ⟨⟨b, ss, tl', a1, ⟨a2.S, a2.tv, a2.rt.add_none hl hk, a2.own, a2.nd, a2.bB⟩, a3, a4⟩, h.AA, h.AL, h.raw, h.gr⟩
theorem BI.put (h : BI w gc gA gL gt src sh ck D vl E W) (hlen : sh.length = 16) (g1 : gc < w.heap.size) (g2 : w.heap.size ≤ gt) (g3 : gt ≠ gA) (g4 : gA ≠ gc) {l : Nat} (hl : l < 8) {x : RawE} {k : List UInt8} (DK : DirOK E) (hk : keyF x.1 = some k) (hh : hasR x.1 (E l) = false) :
    Calls Try.prog 46 #[.pointer (some ⟨gt, 0, none⟩), str k, .agg #[.int .i64 (l : Int), str x.1, .int .i64 x.2], .pointer (some ⟨gc, 98, none⟩)] W fun r W' => r = .returned (.tuple #[]) ∧ BI w gc gA gL gt src sh ck D vl (updD E l (insR x (E l))) W' := by
  obtain ⟨b, ss, tl', a1, a2, a3, a4⟩ := h.ex
  have hw := h.gr.size
  refine (put_tab w.heap.size 68 gt 0 b (LiveL ss).length (deadN ss) 75 gc 98 _ _ ss E l x k W a1 a3 (fun e => by omega) ⟨rfl, rfl, rfl⟩ (stat_cache hlen a4) rfl rfl a2 DK hl hk hh (by decide)).mono ?_
  rintro r W' ⟨b', live', dead', ss', cs', cS', rfl, A', AS', T', sc', so', sS', rfl, rfl, TW', fr, tfn⟩
  obtain ⟨l1, l2⟩ := sS' (by omega)
  obtain ⟨tl2, ht2, rfl⟩ := cache_stat hlen a4 l1 l2 sc'
  have hcs : cs' = [.slice (some ⟨b', 0, none⟩) ss'.length ss'.length, .int .i64 ((LiveL ss').length : Nat), .int .i64 (deadN ss' : Nat)] := by
    have hl3 : cs'.length = 3 := so'.1
    apply List.ext_getElem?
    intro i
    match i with
    | 0 => exact T'.c0
    | 1 => exact T'.c1
    | 2 => exact T'.c2
    | i + 3 => rw [List.getElem?_eq_none (by omega)]; rfl
  subst hcs
  have nt : ∀ q t cs, Arr W q t cs → t ≠ 88 → t ≠ 64 → q ≠ gt → q ≠ gc → ¬ (q = gt ∨ q = gc ∨ tf b ss q) := by
    rintro q t cs a n8 n4 n1 n2 (e | e | e)
    · exact n1 e
    · exact n2 e
    · exact a2.out a n8 n4 e
  refine ⟨rfl, ⟨b', ss', tl2, A', TW', AS', ht2⟩, ?_, ?_, ?_, ?_⟩
  · exact fr.arr (nt gA 68 _ h.AA (by decide) (by decide) (Ne.symm g3) g4) h.AA
  · refine fr.arr (nt gL 93 _ h.AL (by decide) (by decide) ?_ ?_) h.AL
    · rintro rfl; exact absurd (h.AL.ty a1) (by decide)
    · rintro rfl; exact absurd (h.AL.ty a3) (by decide)
  · intro i hi
    obtain ⟨v, e, r⟩ := h.raw i hi
    refine ⟨v, e, r.fr fr (fun q hq => ?_)⟩
    obtain ⟨cur, hc⟩ := r.arr hq
    refine nt q 62 cur hc (by decide) (by decide) ?_ ?_
    · rintro rfl; exact absurd (hc.ty a1) (by decide)
    · rintro rfl; exact absurd (hc.ty a3) (by decide)
  · refine ⟨fr.os.trans h.gr.os, fr.tape.trans h.gr.tape, fr.output.trans h.gr.output, Nat.le_trans h.gr.size fr.size, fun q hq hne => ?_⟩
    rw [fr.block q (by omega) ?_]
    · exact h.gr.block q hq hne
    · rintro (e | e | e)
      · omega
      · exact hne (by rw [e])
      · have := (a2.lo e).1; omega
end
end Go.Proofs.Qxb6500766a
