/- unionvfs: the pages of a directory (plain). -/
import Derived.Test.Qxb6500767aHb
namespace Go.Proofs.Qxb6500767a
open Go.RowKit Go.Qm
set_option linter.unusedVariables false
set_option linter.unusedSimpArgs false
theorem op_si0 {k u : Nat} {hs : List Hd} {T : List Nd} (s : SI k u hs T) (path : List UInt8) {fl : Int} (hfl : nob fl 4 = true) (mode : Int) : SI k (opF u hs T path fl mode).1 (opF u hs T path fl mode).2.1 (opF u hs T path fl mode).2.2.1 := by
  unfold opF
  split
  · exact s
  · split
    · exact s
    · next h hlow =>
      obtain ⟨hh, hb, -⟩ := lowN_lt hlow
      rw [if_neg (by rw [hfl]; simp)]
      split
      · exact s
      · split
        · exact s
        · have P := path_live s.t path true
          have hi := s.t.lt P.1
          have hk := s.t.kd (pathF T path true).1
          have hz := s.t.nz P.1
          have h3 := P.2 rfl
          split
          · have R := res_at T hi 0 (pathF T path true).1
            refine ⟨hold_ti (res_ti s.t hi h3 0) (by rw [R.2.1]; exact hi) (by rw [R.1]; exact hz), (res_hi s.h hi 0).open hh hb (by rw [R.2.1]; exact hi) (by rw [R.1]; omega) _⟩
          · exact ⟨hold_ti s.t hi hz, s.h.open hh hb hi (by omega) _⟩
/-- A directory's handle as it is opened for reading. -/
def dirH (nd : Nat) (c : List UInt8) : Hd := ⟨nd, 1, true, 0, c⟩
theorem open65 {k u : Nat} {hs : List Hd} {T : List Nd} (s : SI k u hs T) (path : List UInt8) (e : (opF u hs T path 65 0).2.2.2.2 = 0) :
    ∃ h nd : Nat, h < 32 ∧ (opF u hs T path 65 0).2.2.2.1 = (h : Nat) ∧ (opF u hs T path 65 0).1.testBit h = true ∧ (opF u hs T path 65 0).2.1 = hs.set h (dirH nd []) ∧ nd < T.length := by
  have a4 : nob 65 4 = true := by decide
  have a64 : nob 65 64 = false := by decide
  have a16 : nob 65 16 = true := by decide
  have a35 : bits .and .i64 65 35 = 1 := by decide
  unfold opF at *
  split at e
  · next a => exact absurd e a
  · next a =>
    rw [if_neg a]
    split at e
    · cases e
    · next h hlow =>
      obtain ⟨hh, hb, -⟩ := lowN_lt hlow
      rw [if_neg (by rw [a4]; simp)] at e
      split at e
      · next b => exact absurd e b
      · next b =>
        split at e
        · next c => exact absurd e c
        · next c =>
          have P := path_live s.t path true
          have hi := s.t.lt P.1
          have hk : (at' T (pathF T path true).1).kind = 2 := by
            by_cases q : (at' T (pathF T path true).1).kind = 2
            · exact q
            · exfalso
              apply c
              unfold admF
              rw [if_neg (by decide), if_neg (fun w => q w.1), if_pos ⟨q, a64⟩]
              decide
          rw [if_neg (by rw [a4]; simp), if_neg b, if_neg c, if_neg (by rw [a16]; decide)]
          refine ⟨h, (pathF T path true).1, hh, rfl, ?_, ?_, hi⟩
          · unfold finO; simp only; rw [bit_set, decide_eq_true rfl, Bool.or_true]
          · unfold finO dirH; simp only; rw [a35, hk]; rfl
/-- The cursor behind q entries. -/
def curAt (es : List Edg) : Nat → List UInt8
  | 0 => []
  | q + 1 => (es.getD q ⟨[], [], 0⟩).key
theorem page_at {T : List Nd} {es : List Edg} (hs : es.Pairwise fun a b => lessB a.key b.key = true) (hk : ∀ e ∈ es, e.key ≠ []) {q : Nat} (hq : q ≤ es.length) (m : Nat) : pageF T es (curAt es q) m = ((es.drop q).take m).map (dirOf T) := by
  have key : es.filter (fun e => lessB (curAt es q) e.key) = es.drop q := by
    cases q with
    | zero =>
      rw [List.drop_zero]
      refine List.filter_eq_self.2 (fun e he => ?_)
      have := hk e he
      cases h : e.key with
      | nil => exact absurd h this
      | cons a l => rfl
    | succ q =>
      have hq' : q < es.length := by omega
      have hsplit : es = es.take q ++ es[q] :: es.drop (q + 1) := by rw [← List.drop_eq_getElem_cons hq', List.take_append_drop]
      have hc : curAt es (q + 1) = es[q].key := by show (es.getD q ⟨[], [], 0⟩).key = _; rw [List.getD_eq_getElem?_getD, List.getElem?_eq_getElem hq']; rfl
      rw [hc]
      obtain ⟨x, hx⟩ : ∃ x, x = es[q] := ⟨_, rfl⟩
      rw [← hx] at hsplit ⊢
      rw [hsplit] at hs
      obtain ⟨h1, h2, h3⟩ := List.pairwise_append.1 hs
      obtain ⟨h4, h5⟩ := List.pairwise_cons.1 h2
      conv => lhs; arg 2; rw [hsplit]
      rw [List.filter_append, List.filter_cons_of_neg (by rw [lessB_irrefl]; simp)]
      rw [List.filter_eq_nil_iff.2 (fun e he => by
        have := h3 e he x (by simp)
        rw [lessB_asymm this]; simp)]
      rw [List.filter_eq_self.2 (fun e he => h4 e he)]
      rfl
  unfold pageF
  rw [key, List.map_take]
theorem last_at {T : List Nd} {es : List Edg} {q m : Nat} (hq : q ≤ es.length) : lastK (curAt es q) (((es.drop q).take m).map (dirOf T)) = curAt es (q + min m (es.length - q)) := by
  by_cases h : min m (es.length - q) = 0
  · have : (es.drop q).take m = [] := by
      apply List.eq_nil_of_length_eq_zero
      rw [List.length_take, List.length_drop]; exact h
    rw [this, h]; rfl
  · obtain ⟨l, hl⟩ : ∃ l, min m (es.length - q) = l + 1 := ⟨min m (es.length - q) - 1, by omega⟩
    have hlen : (((es.drop q).take m).map (dirOf T)).length = l + 1 := by rw [List.length_map, List.length_take, List.length_drop]; exact hl
    rw [lastK_get hlen, hl]
    have hql : q + l < es.length := by omega
    show _ = (es.getD (q + l) ⟨[], [], 0⟩).key
    rw [List.getD_eq_getElem?_getD, List.getElem?_eq_getElem hql]
    simp [dirOf]
theorem rdd_dir {u : Nat} {hs : List Hd} {T : List Nd} {h nd : Nat} {c : List UInt8} (hh : h < hs.length) (h32 : h < 32) (hb : u.testBit h = true) {m : Int} (hm : 1 ≤ m) :
    rddF u (hs.set h (dirH nd c)) T h m = (hs.set h (dirH nd (lastK c (pageF T (at' T nd).edges c m.toNat))), pageF T (at' T nd).edges c m.toNat, 0) := by
  have hg : getOK u (hs.set h (dirH nd c)) h 1 = true := by
    unfold getOK opn
    rw [Int.toNat_natCast, hat_set hh, hb, decide_eq_true (by omega), decide_eq_true (by omega)]
    show (true && true && true && (bits .and .i64 1 1 == 1)) = true
    decide
  unfold rddF
  rw [if_neg (by rw [hg]; decide), Int.toNat_natCast, hat_set hh, if_neg (show ¬ ((dirH nd c).dir = false) from fun a => by cases a), if_neg (by omega), List.set_set]
  rfl
theorem sk_dir {u : Nat} {hs : List Hd} {T : List Nd} {h nd : Nat} {c : List UInt8} (hh : h < hs.length) (h32 : h < 32) (hb : u.testBit h = true) :
    skF u (hs.set h (dirH nd c)) T h 0 0 = (hs.set h (dirH nd []), 0, 0) := by
  have hg : getOK u (hs.set h (dirH nd c)) h 0 = true := by
    rw [getOK_zero]
    unfold opn
    rw [Int.toNat_natCast, hb, decide_eq_true (by omega), decide_eq_true (by omega)]
    decide
  unfold skF
  rw [if_neg (by rw [hg]; decide), Int.toNat_natCast, hat_set hh, if_pos (show (dirH nd c).dir = true from rfl), if_neg (by decide), List.set_set]
  rfl
theorem cls_dir {u : Nat} {hs : List Hd} {T : List Nd} {h : Nat} (h32 : h < 32) (hb : u.testBit h = true) : (clsF u hs T h).2.2.2 = 0 := by
  have hg : getOK u hs h 0 = true := by
    rw [getOK_zero]
    unfold opn
    rw [Int.toNat_natCast, hb, decide_eq_true (by omega), decide_eq_true (by omega)]
    decide
  unfold clsF
  rw [if_neg (by rw [hg]; decide)]
end Go.Proofs.Qxb6500767a
