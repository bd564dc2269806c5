/- The model's rows and the raw directories: one and the same. -/
import Derived.Test.Qxb6500766aMe
import Derived.Test.Qxb6500766aMc
namespace Go.Proofs.Qxb6500766a
open Go Go.RowKit Go.Qm
set_option linter.unusedVariables false
def atB (d l : Nat) (r : Row) : Bool := (r.dir == (d : Int)) && (r.layer == (l : Int))
def rowsOf (rows : List Row) (d l : Nat) : List RawE := (rows.filter (atB d l)).map (fun r => (r.raw, r.kind))
structure MRel (rows : List Row) (R : Sys) : Prop where
  rng : ∀ r ∈ rows, ∃ d l : Nat, r.dir = d ∧ d < 24 ∧ r.layer = l ∧ l < 8
  pm : ∀ d l, d < 24 → l < 8 → (rowsOf rows d l).Perm (R d l)
  nm : ∀ r ∈ rows, r.raw.length ≤ 65536
theorem MRel.nil : MRel [] (fun _ _ => []) := ⟨by simp, fun d l _ _ => by simp [rowsOf], by simp⟩
theorem mem_rowsOf {rows : List Row} {d l : Nat} {x : RawE} : x ∈ rowsOf rows d l ↔ ∃ r ∈ rows, r.dir = d ∧ r.layer = l ∧ x = (r.raw, r.kind) := by
  unfold rowsOf atB
  rw [List.mem_map]
  constructor
  · rintro ⟨r, hr, rfl⟩
    rw [List.mem_filter, Bool.and_eq_true, beq_iff_eq, beq_iff_eq] at hr
    exact ⟨r, hr.1, hr.2.1, hr.2.2, rfl⟩
  · rintro ⟨r, hr, h1, h2, rfl⟩
    exact ⟨r, List.mem_filter.2 ⟨hr, by simp [h1, h2]⟩, rfl⟩
theorem insR_perm (x : RawE) : ∀ rs : List RawE, (insR x rs).Perm (x :: rs)
  | [] => List.Perm.refl _
  | r :: l => by
    rw [insR]
    split
    · exact List.Perm.refl _
    · exact (List.Perm.cons r (insR_perm x l)).trans (List.Perm.swap x r l)
section
variable {rows : List Row} {R : Sys}
theorem MRel.has (h : MRel rows R) {o : OpV} {d l : Nat} (hd : d < 24) (hl : l < 8) (e1 : o.dir = d) (e2 : o.layer = l) : rows.any (matR o) = hasR o.name (R d l) := by
  rw [Bool.eq_iff_iff, List.any_eq_true, hasR_true]
  constructor
  · rintro ⟨r, hr, hm⟩
    unfold matR sameDL at hm
    rw [Bool.and_eq_true, Bool.and_eq_true, beq_iff_eq, beq_iff_eq, beq_iff_eq] at hm
    exact ⟨(r.raw, r.kind), (h.pm d l hd hl).mem_iff.1 (mem_rowsOf.2 ⟨r, hr, by rw [hm.1.1, e1], by rw [hm.1.2, e2], rfl⟩), hm.2⟩
  · rintro ⟨x, hx, hn⟩
    obtain ⟨r, hr, h1, h2, rfl⟩ := mem_rowsOf.1 ((h.pm d l hd hl).mem_iff.2 hx)
    refine ⟨r, hr, ?_⟩
    unfold matR sameDL
    rw [h1, h2, e1, e2]
    simpa using hn
theorem MRel.held (h : MRel rows R) {o : OpV} {d l : Nat} (hd : d < 24) (hl : l < 8) (e1 : o.dir = d) (e2 : o.layer = l) : heldN o rows = (R d l).length := by
  rw [← (h.pm d l hd hl).length_eq]
  unfold heldN rowsOf
  rw [List.length_map]
  congr 2
  funext r
  unfold sameDL atB
  rw [e1, e2]
theorem rowsOf_append (A C : List Row) (d l : Nat) : rowsOf (A ++ C) d l = rowsOf A d l ++ rowsOf C d l := by
  unfold rowsOf
  rw [List.filter_append, List.map_append]
theorem rowsOf_one (r : Row) (d l : Nat) : rowsOf [r] d l = if atB d l r = true then [(r.raw, r.kind)] else [] := by
  unfold rowsOf
  by_cases h : atB d l r = true
  · rw [if_pos h]; simp [h]
  · rw [if_neg h]; simp [h]
theorem MRel.add (h : MRel rows R) {d l : Nat} (hd : d < 24) (hl : l < 8) {name : List UInt8} (hn : name.length ≤ 65536) (what : Int) : MRel (rows ++ [⟨d, l, name, what⟩]) (addS R d l (name, what)) := by
  refine ⟨fun r hr => ?_, fun a b ha hb => ?_, fun r hr => ?_⟩
  · rcases List.mem_append.1 hr with q | q
    · exact h.rng r q
    · have : r = ⟨d, l, name, what⟩ := by simpa using q
      subst this
      exact ⟨d, l, rfl, hd, rfl, hl⟩
  · rw [rowsOf_append, rowsOf_one]
    unfold addS
    by_cases e : a = d ∧ b = l
    · obtain ⟨rfl, rfl⟩ := e
      rw [if_pos (by simp [atB]), updS_self, updD_self]
      exact (List.perm_append_comm.trans (List.Perm.cons _ (h.pm a b ha hb))).trans (insR_perm _ _).symm
    · rw [if_neg (by simp [atB]; intro q; omega), List.append_nil]
      by_cases e1 : a = d
      · subst e1
        rw [updS_self, updD_ne _ _ (fun q => e ⟨rfl, q⟩)]
        exact h.pm a b ha hb
      · rw [updS_ne R _ e1]
        exact h.pm a b ha hb
  · rcases List.mem_append.1 hr with q | q
    · exact h.nm r q
    · have : r = ⟨d, l, name, what⟩ := by simpa using q
      subst this
      exact hn
theorem erase_split (p : Row → Bool) : ∀ {rows : List Row}, rows.any p = true → ∃ A x C, rows = A ++ x :: C ∧ rows.eraseP p = A ++ C ∧ p x = true
  | [], h => by simp at h
  | r :: l, h => by
    by_cases hr : p r = true
    · exact ⟨[], r, l, rfl, by rw [List.eraseP_cons_of_pos hr]; rfl, hr⟩
    · rw [List.any_cons, Bool.or_eq_true] at h
      obtain ⟨A, x, C, e1, e2, e3⟩ := erase_split p (h.resolve_left hr)
      exact ⟨r :: A, x, C, by rw [e1]; rfl, by rw [List.eraseP_cons_of_neg hr, e2]; rfl, e3⟩
theorem srt_names {rs : List RawE} (h : SrtR rs) : (rs.map (·.1)).Nodup := by
  unfold List.Nodup
  rw [List.pairwise_map]
  refine List.Pairwise.imp ?_ h
  intro a b hab e
  rw [e, lessB_irrefl] at hab
  cases hab
theorem out_self {name : List UInt8} {rs : List RawE} (h : ∀ r ∈ rs, r.1 ≠ name) : outR name rs = rs := List.filter_eq_self.2 (fun r hr => by simpa using h r hr)
theorem MRel.rem (h : MRel rows R) {o : OpV} {d l : Nat} (hd : d < 24) (hl : l < 8) (e1 : o.dir = d) (e2 : o.layer = l) (hs : SrtR (R d l)) (hany : rows.any (matR o) = true) : MRel (rows.eraseP (matR o)) (outS R d l o.name) := by
  obtain ⟨A, x, C, er, ee, hx⟩ := erase_split (matR o) hany
  unfold matR sameDL at hx
  rw [Bool.and_eq_true, Bool.and_eq_true, beq_iff_eq, beq_iff_eq, beq_iff_eq] at hx
  have hxd : x.dir = d := hx.1.1.trans e1
  have hxl : x.layer = l := hx.1.2.trans e2
  rw [ee]
  have hsub : ∀ r ∈ A ++ C, r ∈ rows := fun r hr => by
    rw [er]
    rcases List.mem_append.1 hr with q | q
    · simp [q]
    · simp [q]
  refine ⟨fun r hr => h.rng r (hsub r hr), fun a b ha hb => ?_, fun r hr => h.nm r (hsub r hr)⟩
  have hpm := h.pm a b ha hb
  rw [er, show A ++ x :: C = A ++ ([x] ++ C) from rfl, rowsOf_append, rowsOf_append, rowsOf_one] at hpm
  rw [rowsOf_append]
  unfold outS
  by_cases e : a = d ∧ b = l
  · obtain ⟨rfl, rfl⟩ := e
    rw [if_pos (by simp [atB, hxd, hxl])] at hpm
    rw [updS_self, updD_self]
    have nd := (hpm.map (·.1)).nodup_iff.2 (srt_names hs)
    rw [List.map_append, List.map_append, List.nodup_append] at nd
    obtain ⟨_, n2, n3⟩ := nd
    have n2' : (x.raw :: (rowsOf C a b).map (·.1)).Nodup := n2
    rw [List.nodup_cons] at n2'
    have hout := hpm.filter (fun r => r.1 != o.name)
    have h1 : outR o.name (rowsOf A a b) = rowsOf A a b := out_self (fun r hr q => by
      refine n3 r.1 (List.mem_map_of_mem hr) x.raw (by simp) ?_
      rw [q, hx.2])
    have h2 : outR o.name (rowsOf C a b) = rowsOf C a b := out_self (fun r hr q => n2'.1 (by rw [hx.2, ← q]; exact List.mem_map_of_mem hr))
    rw [List.filter_append, List.filter_append] at hout
    have h3 : List.filter (fun r : RawE => r.1 != o.name) [(x.raw, x.kind)] = [] := by simp [hx.2]
    rw [h3, List.nil_append] at hout
    have h1' : List.filter (fun r : RawE => r.1 != o.name) (rowsOf A a b) = rowsOf A a b := h1
    have h2' : List.filter (fun r : RawE => r.1 != o.name) (rowsOf C a b) = rowsOf C a b := h2
    rw [h1', h2'] at hout
    exact hout
  · rw [if_neg (by simp [atB, hxd, hxl]; intro q; omega), List.nil_append] at hpm
    by_cases ea : a = d
    · subst ea
      rw [updS_self, updD_ne _ _ (fun q => e ⟨rfl, q⟩)]
      exact hpm
    · rw [updS_ne R _ ea]
      exact hpm
theorem MRel.dis (h : MRel rows R) (hok : ∀ d, d < 24 → DirOK (R d)) : DisR rows := by
  unfold DisR
  rw [List.pairwise_iff_forall_sublist]
  rintro a b hab ⟨h1, h2, h3⟩
  obtain ⟨d, l, e1, hd, e2, hl⟩ := h.rng a (hab.subset (by simp))
  have s1 := (hab.filter (atB d l)).map (fun r : Row => (r.raw, r.kind))
  have ha : atB d l a = true := by simp [atB, e1, e2]
  have hb : atB d l b = true := by simp [atB, ← h1, ← h2, e1, e2]
  rw [List.filter_cons, if_pos ha, List.filter_cons, if_pos hb] at s1
  have nd := ((h.pm d l hd hl).map (·.1)).nodup_iff.2 (srt_names ((hok d hd).srt l hl))
  have s2 := s1.map (·.1)
  have := List.Nodup.sublist s2 nd
  simp at this
  exact this h3
theorem MRel.bear (h : MRel rows R) (hok : ∀ d, d < 24 → DirOK (R d)) {d : Nat} (hd : d < 24) (key : List UInt8) : mbF d key rows = bear (R d) key := by
  have hs := mb_srt (d := (d : Int)) (key := key) (h.dis hok) rows.length (Nat.le_refl _)
  rw [List.take_length] at hs
  refine srt_uniq hs (bear_sorted key (hok d hd).srt) (fun x => ?_)
  rw [mem_mb, mem_bear]
  constructor
  · rintro ⟨r, hr, hh, rfl⟩
    unfold hitR at hh
    rw [Bool.and_eq_true, beq_iff_eq, beq_iff_eq] at hh
    obtain ⟨d', l, e1, _, e2, hl⟩ := h.rng r hr
    refine ⟨l, hl, (r.raw, r.kind), (h.pm d l hd hl).mem_iff.1 (mem_rowsOf.2 ⟨r, hr, hh.1, e2, rfl⟩), hh.2, ?_⟩
    unfold entR mkE
    rw [e2]
  · rintro ⟨l, hl, q, hq, hk, rfl⟩
    obtain ⟨r, hr, e1, e2, rfl⟩ := mem_rowsOf.1 ((h.pm d l hd hl).mem_iff.2 hq)
    refine ⟨r, hr, ?_, ?_⟩
    · unfold hitR
      rw [Bool.and_eq_true, beq_iff_eq, beq_iff_eq]
      exact ⟨e1, hk⟩
    · unfold entR mkE
      rw [e2]
theorem mnext_fold (d : Int) (after : List UInt8) : ∀ (rows : List Row) (acc : Option (List UInt8)), rows.foldl (mstep d after) acc = (rows.filterMap (mkeyR d)).foldl (stepK after) acc
  | [], acc => rfl
  | r :: l, acc => by
    rw [List.foldl_cons, mnext_fold d after l, List.filterMap_cons]
    unfold mstep
    cases mkeyR d r with
    | none => rfl
    | some k => rfl
theorem MRel.next (h : MRel rows R) {d : Nat} (hd : d < 24) (after : List UInt8) : mnextF d after rows = nextK (R d) after := by
  unfold mnextF
  rw [mnext_fold]
  refine next_uniq (fun k => ?_) (next_spec _ after) (nextK_spec (R d) after)
  rw [List.mem_filterMap, mem_keys]
  constructor
  · rintro ⟨r, hr, hk⟩
    unfold mkeyR at hk
    split at hk
    · rename_i e
      obtain ⟨d', l, e1, _, e2, hl⟩ := h.rng r hr
      exact ⟨l, hl, (r.raw, r.kind), (h.pm d l hd hl).mem_iff.1 (mem_rowsOf.2 ⟨r, hr, e, e2, rfl⟩), hk⟩
    · cases hk
  · rintro ⟨l, hl, q, hq, hk⟩
    obtain ⟨r, hr, e1, e2, rfl⟩ := mem_rowsOf.1 ((h.pm d l hd hl).mem_iff.2 hq)
    refine ⟨r, hr, ?_⟩
    unfold mkeyR
    rw [if_pos e1]
    exact hk
end
end Go.Proofs.Qxb6500766a
