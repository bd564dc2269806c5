/- The cache's block: its shelves; DropAll. -/
import Derived.Test.Qxb6500766aCd
import Derived.Test.Qxb6500766aSt
import Derived.Deep.LoopGhost
namespace Go.Proofs.Qxb6500766a
open Go.RowKit Go.Qm
set_option linter.unusedVariables false
set_option linter.unusedSimpArgs false
attribute [local go_sem ↓] Go.wp_at_zero Go.wp_at_succ
structure Shelf where
  used : Bool
  dir : Int
  stamp : Int
  sv : Value
  live : Int
  dead : Int
def shC (s : Shelf) : List Value := [.bool s.used, .int .i64 s.dir, .int .u64 s.stamp, s.sv, .int .i64 s.live, .int .i64 s.dead]
theorem shC_length (s : Shelf) : (shC s).length = 6 := rfl
def sh0 : Shelf := ⟨false, 0, 0, .slice none 0 0, 0, 0⟩
def cacheL (src : Value) (sh : List Shelf) (tl : List Value) : List Value := src :: (sh.flatMap shC ++ tl)
theorem cacheL_get (src : Value) (sh : List Shelf) (tl : List Value) (i j : Nat) (hi : i < sh.length) (hj : j < 6) : (cacheL src sh tl)[1 + i * 6 + j]? = (shC sh[i])[j]? := by
  unfold cacheL
  rw [show 1 + i * 6 + j = (i * 6 + j) + 1 by omega, List.getElem?_cons_succ, List.getElem?_append_left (by rw [flat_length shC 6 shC_length]; omega), flat_get shC 6 shC_length sh i j hi hj]
theorem flat_set6 (x : Shelf) : ∀ (sh : List Shelf) (j : Nat), j < sh.length → ((((((sh.flatMap shC).set (j * 6) (.bool x.used)).set (j * 6 + 1) (.int .i64 x.dir)).set (j * 6 + 2) (.int .u64 x.stamp)).set (j * 6 + 3) x.sv).set (j * 6 + 4) (.int .i64 x.live)).set (j * 6 + 5) (.int .i64 x.dead) = (sh.set j x).flatMap shC
  | [], j, h => by simp at h
  | s :: l, 0, _ => by simp [shC]
  | s :: l, j + 1, h => by
    have ih := flat_set6 x l j (by simpa using h)
    simp only [List.flatMap_cons, List.set_cons_succ]
    rw [show (j + 1) * 6 = (shC s).length + j * 6 by rw [shC_length]; omega]
    simp only [Nat.add_assoc]
    rw [List.set_append_right _ _ (by omega), List.set_append_right _ _ (by omega), List.set_append_right _ _ (by omega), List.set_append_right _ _ (by omega), List.set_append_right _ _ (by omega), List.set_append_right _ _ (by omega)]
    simp only [Nat.add_sub_cancel_left]
    rw [ih]
theorem cacheL_set (src : Value) (sh : List Shelf) (tl : List Value) (i : Nat) (hi : i < sh.length) (x : Shelf) :
    ((((((cacheL src sh tl).set (1 + i * 6) (.bool x.used)).set (1 + i * 6 + 1) (.int .i64 x.dir)).set (1 + i * 6 + 2) (.int .u64 x.stamp)).set (1 + i * 6 + 3) x.sv).set (1 + i * 6 + 4) (.int .i64 x.live)).set (1 + i * 6 + 5) (.int .i64 x.dead) = cacheL src (sh.set i x) tl := by
  have hl := flat_length shC 6 shC_length sh
  unfold cacheL
  rw [← flat_set6 x sh i hi, show 1 + i * 6 = i * 6 + 1 by omega, show i * 6 + 1 + 1 = (i * 6 + 1) + 1 by omega, show i * 6 + 1 + 2 = (i * 6 + 2) + 1 by omega, show i * 6 + 1 + 3 = (i * 6 + 3) + 1 by omega, show i * 6 + 1 + 4 = (i * 6 + 4) + 1 by omega, show i * 6 + 1 + 5 = (i * 6 + 5) + 1 by omega]
  simp only [List.set_cons_succ]
  rw [List.set_append_left _ _ (by omega), List.set_append_left _ _ (by rw [List.length_set]; omega), List.set_append_left _ _ (by simp only [List.length_set]; omega), List.set_append_left _ _ (by simp only [List.length_set]; omega), List.set_append_left _ _ (by simp only [List.length_set]; omega), List.set_append_left _ _ (by simp only [List.length_set]; omega)]
theorem cache0_eq (gs : Nat) : cache0 gs = cacheL (.pointer (some ⟨gs, 0, none⟩)) (List.replicate 16 sh0) [.int .u64 0, .int .i64 0, .int .i64 0, .int .i64 0, .int .i64 0, .int .i64 0, .int .i64 0] := rfl
theorem Arr.shelf {w : World} {gc : Nat} {src : Value} {sh : List Shelf} {tl : List Value} (h : Arr w gc 75 (cacheL src sh tl)) {i : Nat} (hi : i < sh.length) :
    w.cell? ⟨gc, 1 + i * 6, none⟩ = some (.bool sh[i].used) ∧ w.cell? ⟨gc, 1 + i * 6 + 1, none⟩ = some (.int .i64 sh[i].dir) ∧ w.cell? ⟨gc, 1 + i * 6 + 2, none⟩ = some (.int .u64 sh[i].stamp) ∧ w.cell? ⟨gc, 1 + i * 6 + 3, none⟩ = some sh[i].sv ∧ w.cell? ⟨gc, 1 + i * 6 + 4, none⟩ = some (.int .i64 sh[i].live) ∧ w.cell? ⟨gc, 1 + i * 6 + 5, none⟩ = some (.int .i64 sh[i].dead) := by
  have g := fun j hj => (Go.Qm.Arr.cell h (1 + i * 6 + j)).trans (cacheL_get src sh tl i j hi hj)
  refine ⟨?_, g 1 (by omega), g 2 (by omega), g 3 (by omega), g 4 (by omega), g 5 (by omega)⟩
  have := g 0 (by omega)
  rw [Nat.add_zero] at this
  exact this
set_option maxRecDepth 4000 in
set_option maxHeartbeats 1000000 in
theorem dropAll_c (gc : Nat) (src : Value) (sh : List Shelf) (tl : List Value) (w : World) (hA : Arr w gc 75 (cacheL src sh tl)) (hl : sh.length = 16) :
    Calls Try.prog 14 #[.pointer (some ⟨gc, 0, none⟩)] w fun e w' => e = .returned (.tuple #[]) ∧ Arr w' gc 75 (cacheL src (List.replicate 16 sh0) tl) ∧ w.grownBy w' (some gc) := by
  have HL := Hid.mk hl
  clear hl
  go_enter Try.func14, Try.ntmps14
  go_wp2_with fail
  go_loopg [2] 16 (fun gk iv wr => ∃ (k : Nat) (s2 : List Shelf), k + gk = 16 ∧ iv = .int .i64 k ∧ s2.length = 16 ∧ (∀ i (hi : i < s2.length), i < k → s2[i] = sh0) ∧ Arr wr gc 75 (cacheL src s2 tl) ∧ w.grownBy wr (some gc))
  case atStart => exact ⟨0, sh, by omega, rfl, HL.out, fun i _ h => by omega, hA, grown_refl _ _⟩
  case round => as_aux_lemma =>
    obtain ⟨k, s2, hk, rfl, hs, hz, hB, gr⟩ := hrel
    have HK := Hid.mk hk
    have HS := Hid.mk hs
    have HZS := Hid.mk hz
    clear hk hs hz
    by_cases hlt : k < 16
    · have i1 : (k : Int) < 16 := by omega
      have hks : k < s2.length := by have := HS.out; omega
      obtain ⟨c0, c1, c2, c3, c4, c5⟩ := Arr.shelf hB hks
      have f0 := Go.Qm.Arr.frozen hB (1 + k * 6)
      have f1 := Go.Qm.Arr.frozen hB (1 + k * 6 + 1)
      have f2 := Go.Qm.Arr.frozen hB (1 + k * 6 + 2)
      have f3 := Go.Qm.Arr.frozen hB (1 + k * 6 + 3)
      have f4 := Go.Qm.Arr.frozen hB (1 + k * 6 + 4)
      have f5 := Go.Qm.Arr.frozen hB (1 + k * 6 + 5)
      have BF := (((((Go.Qm.Arr.set hB (1 + k * 6) (.bool false)).set (1 + k * 6 + 1) (.int .i64 0)).set (1 + k * 6 + 2) (.int .u64 0)).set (1 + k * 6 + 3) (.slice none 0 0)).set (1 + k * 6 + 4) (.int .i64 0)).set (1 + k * 6 + 5) (.int .i64 0)
      have e := cacheL_set src s2 tl k hks sh0
      unfold sh0 at e
      simp only at e
      rw [e] at BF
      have GF := grown_set (grown_set (grown_set (grown_set (grown_set (grown_set gr (1 + k * 6) (.bool false)) (1 + k * 6 + 1) (.int .i64 0)) (1 + k * 6 + 2) (.int .u64 0)) (1 + k * 6 + 3) (.slice none 0 0)) (1 + k * 6 + 4) (.int .i64 0)) (1 + k * 6 + 5) (.int .i64 0)
      have HZ2 : Hid (∀ i (hi : i < (s2.set k sh0).length), i < k + 1 → (s2.set k sh0)[i] = sh0) := Hid.mk (fun i hi h => by
        rw [List.getElem_set]
        split
        · rfl
        · exact HZS.out i (by simpa using hi) (by omega))
      clear e hB
      generalize s2[k] = X at *
      go_wp2_with fail
      go_roundg (gk - 1)
      case measure => have := HK.out; omega
      case rel => exact ⟨k + 1, s2.set k sh0, by have := HK.out; omega, by go_num, by rw [List.length_set]; exact HS.out, HZ2.out, BF, GF⟩
    · have i1 : ¬ (k : Int) < 16 := by omega
      have HR : Hid (s2 = List.replicate 16 sh0) := Hid.mk (by
        apply List.ext_getElem (by rw [HS.out]; simp)
        intro i h1 h2
        rw [List.getElem_replicate]
        exact HZS.out i h1 (by have := HS.out; omega))
      rw [HR.out] at hB
      go_wp2_with fail
      go_end0
      exact ⟨rfl, hB, gr⟩
end Go.Proofs.Qxb6500766a
