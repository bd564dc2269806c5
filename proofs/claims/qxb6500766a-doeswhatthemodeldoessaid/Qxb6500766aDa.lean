/- The cache's block: its counters, and what stands behind a put or a drop in one of its shelves. -/
import Derived.Test.Qxb6500766aCf
import Derived.Test.Qxb6500766aPc
namespace Go.Proofs.Qxb6500766a
open Go.RowKit Go.Qm
set_option linter.unusedVariables false
/-- The clock and the six counters. -/
def tlL (ck x0 x1 x2 x3 x4 x5 : Int) : List Value := [.int .u64 ck, .int .i64 x0, .int .i64 x1, .int .i64 x2, .int .i64 x3, .int .i64 x4, .int .i64 x5]
def TlOK (ck : Int) (tl : List Value) : Prop := ∃ x0 x1 x2 x3 x4 x5, tl = tlL ck x0 x1 x2 x3 x4 x5
theorem cacheL_len (src : Value) (sh : List Shelf) (tl : List Value) : (cacheL src sh tl).length = 1 + sh.length * 6 + tl.length := by
  unfold cacheL
  rw [List.length_cons, List.length_append, flat_length shC 6 shC_length]
  omega
theorem cacheL_tl (src : Value) {sh : List Shelf} (tl : List Value) (hl : sh.length = 16) (j : Nat) : (cacheL src sh tl)[97 + j]? = tl[j]? := by
  have := flat_length shC 6 shC_length sh
  unfold cacheL
  rw [show 97 + j = (96 + j) + 1 by omega, List.getElem?_cons_succ, List.getElem?_append_right (by omega), this, hl]
  congr 1
  omega
theorem cacheL_tl_set (src : Value) {sh : List Shelf} (tl : List Value) (hl : sh.length = 16) (j : Nat) (v : Value) : (cacheL src sh tl).set (97 + j) v = cacheL src sh (tl.set j v) := by
  have := flat_length shC 6 shC_length sh
  unfold cacheL
  rw [show 97 + j = (96 + j) + 1 by omega, List.set_cons_succ, List.set_append_right _ _ (by omega), this, hl]
  congr 3
  omega
theorem Arr.tl {w : World} {gc : Nat} {src : Value} {sh : List Shelf} {tl : List Value} (h : Arr w gc 75 (cacheL src sh tl)) (hl : sh.length = 16) (j : Nat) : w.cell? ⟨gc, 97 + j, none⟩ = tl[j]? := (Go.Qm.Arr.cell h (97 + j)).trans (cacheL_tl src tl hl j)
theorem Arr.tlSet {w : World} {gc : Nat} {src : Value} {sh : List Shelf} {tl : List Value} (h : Arr w gc 75 (cacheL src sh tl)) (hl : sh.length = 16) (j : Nat) (v : Value) : Arr (w.setCell ⟨gc, 97 + j, none⟩ v) gc 75 (cacheL src sh (tl.set j v)) := by
  rw [← cacheL_tl_set src tl hl]
  exact Go.Qm.Arr.set h _ _
theorem Arr.src {w : World} {gc : Nat} {src : Value} {sh : List Shelf} {tl : List Value} (h : Arr w gc 75 (cacheL src sh tl)) : w.cell? ⟨gc, 0, none⟩ = some src := (Go.Qm.Arr.cell h 0).trans rfl
theorem stat_cache {src : Value} {sh : List Shelf} {ck : Int} {tl : List Value} (hl : sh.length = 16) (ht : TlOK ck tl) : StatC (cacheL src sh tl) 98 := by
  obtain ⟨x0, x1, x2, x3, x4, x5, rfl⟩ := ht
  exact ⟨x3, x4, x5, cacheL_tl src _ hl 4, cacheL_tl src _ hl 5, cacheL_tl src _ hl 6⟩
/-- The counters of the last three places have turned. -/
theorem cache_stat {src : Value} {sh : List Shelf} {ck : Int} {tl cS : List Value} (hl : sh.length = 16) (ht : TlOK ck tl) (hlen : cS.length = (cacheL src sh tl).length) (h : ∀ i, i ≠ 98 + 3 → i ≠ 98 + 4 → i ≠ 98 + 5 → cS[i]? = (cacheL src sh tl)[i]?) (sc : StatC cS 98) :
    ∃ tl', TlOK ck tl' ∧ cS = cacheL src sh tl' := by
  obtain ⟨x0, x1, x2, x3, x4, x5, rfl⟩ := ht
  obtain ⟨y3, y4, y5, e3, e4, e5⟩ := sc
  refine ⟨tlL ck x0 x1 x2 y3 y4 y5, ⟨x0, x1, x2, y3, y4, y5, rfl⟩, List.ext_getElem? (fun i => ?_)⟩
  by_cases hi : i < 97
  · rw [h i (by omega) (by omega) (by omega)]
    have := flat_length shC 6 shC_length sh
    unfold cacheL
    cases i with
    | zero => rfl
    | succ i => rw [List.getElem?_cons_succ, List.getElem?_cons_succ, List.getElem?_append_left (by omega), List.getElem?_append_left (by omega)]
  · obtain ⟨j, rfl⟩ : ∃ j, i = 97 + j := ⟨i - 97, by omega⟩
    rw [cacheL_tl src _ hl]
    match j with
    | 0 => rw [h _ (by omega) (by omega) (by omega), cacheL_tl src _ hl]; rfl
    | 1 => rw [h _ (by omega) (by omega) (by omega), cacheL_tl src _ hl]; rfl
    | 2 => rw [h _ (by omega) (by omega) (by omega), cacheL_tl src _ hl]; rfl
    | 3 => rw [h _ (by omega) (by omega) (by omega), cacheL_tl src _ hl]; rfl
    | 4 => exact e3
    | 5 => exact e4
    | 6 => exact e5
    | j + 7 => rw [h _ (by omega) (by omega) (by omega), cacheL_tl src _ hl]; rfl
/-- A shelf's table has turned, and perhaps the counters. -/
theorem cache_shelf {src : Value} {sh : List Shelf} {ck : Int} {tl cs : List Value} {at' b n live dead : Nat} (hl : sh.length = 16) (hat : at' < 16) (ht : TlOK ck tl) (hlen : cs.length = (cacheL src sh tl).length)
    (h : ∀ i, i ≠ 1 + at' * 6 + 3 → i ≠ 1 + at' * 6 + 3 + 1 → i ≠ 1 + at' * 6 + 3 + 2 → i ≠ 98 + 3 → i ≠ 98 + 4 → i ≠ 98 + 5 → cs[i]? = (cacheL src sh tl)[i]?) (sc : StatC cs 98) (tc : TabC cs (1 + at' * 6 + 3) b n live dead) :
    ∃ tl', TlOK ck tl' ∧ cs = cacheL src (sh.set at' ⟨shU sh at', shD sh at', (sh.getD at' sh0).stamp, .slice (some ⟨b, 0, none⟩) n n, live, dead⟩) tl' := by
  have hg : sh.getD at' sh0 = sh[at'] := by rw [List.getD_eq_getElem?_getD, List.getElem?_eq_getElem (by omega)]; rfl
  refine cache_stat (tl := tl) (by rw [List.length_set]; exact hl) ht (by rw [hlen, cacheL_len, cacheL_len, List.length_set]) (fun i h3 h4 h5 => ?_) sc
  by_cases hi : i < 97
  · cases i with
    | zero => rw [h 0 (by omega) (by omega) (by omega) (by omega) (by omega) (by omega)]; rfl
    | succ i =>
      have e : i + 1 = 1 + (i / 6) * 6 + i % 6 := by omega
      have hm : i % 6 < 6 := Nat.mod_lt _ (by omega)
      have hq : i / 6 < 16 := by omega
      rw [e, cacheL_get src _ tl (i / 6) (i % 6) (by rw [List.length_set]; omega) hm]
      by_cases ha : i / 6 = at'
      · rw [List.getElem_set, if_pos ha.symm, ha]
        match hj : i % 6, hm with
        | 0, _ => rw [h _ (by omega) (by omega) (by omega) (by omega) (by omega) (by omega), cacheL_get src sh tl at' 0 (by omega) (by omega), ← hg]; rfl
        | 1, _ => rw [h _ (by omega) (by omega) (by omega) (by omega) (by omega) (by omega), cacheL_get src sh tl at' 1 (by omega) (by omega), ← hg]; rfl
        | 2, _ => rw [h _ (by omega) (by omega) (by omega) (by omega) (by omega) (by omega), cacheL_get src sh tl at' 2 (by omega) (by omega), ← hg]; rfl
        | 3, _ => exact tc.c0
        | 4, _ => exact tc.c1
        | 5, _ => exact tc.c2
      · rw [List.getElem_set, if_neg (fun a => ha a.symm), h _ (by omega) (by omega) (by omega) (by omega) (by omega) (by omega), cacheL_get src sh tl (i / 6) (i % 6) (by omega) hm]
  · obtain ⟨j, rfl⟩ : ∃ j, i = 97 + j := ⟨i - 97, by omega⟩
    rw [h _ (by omega) (by omega) (by omega) (by omega) (by omega) (by omega), cacheL_tl src _ hl, cacheL_tl src _ (by rw [List.length_set]; exact hl)]
end Go.Proofs.Qxb6500766a
