/- append of a string's octets. -/
import Derived.Test.Qxb6500767aJa
import Derived.Deep.AppendSrc
namespace Go.Qm
open Go Go.RowKit
set_option linter.unusedVariables false
def setL : List Value → Nat → List Value → List Value
  | cur, _, [] => cur
  | cur, o, v :: r => setL (cur.set o v) (o + 1) r
theorem setL_length : ∀ (vs : List Value) (cur : List Value) (o : Nat), (setL cur o vs).length = cur.length
  | [], cur, o => rfl
  | v :: r, cur, o => by rw [setL, setL_length r, List.length_set]
theorem setL_take : ∀ (vs : List Value) (cur : List Value) (o : Nat), o + vs.length ≤ cur.length → (setL cur o vs).take (o + vs.length) = cur.take o ++ vs
  | [], cur, o, h => by simp [setL]
  | v :: r, cur, o, h => by
    simp only [List.length_cons] at h
    rw [setL, List.length_cons, show o + (r.length + 1) = o + 1 + r.length by omega, setL_take r (cur.set o v) (o + 1) (by rw [List.length_set]; omega)]
    have e : (cur.set o v).take (o + 1) = cur.take o ++ [v] := by
      apply List.ext_getElem?
      intro i
      by_cases h1 : i < o
      · rw [List.getElem?_take_of_lt (by omega), List.getElem?_set_ne (by omega), List.getElem?_append_left (by rw [List.length_take]; omega), List.getElem?_take_of_lt h1]
      · by_cases h2 : i = o
        · subst h2
          rw [List.getElem?_take_of_lt (by omega), List.getElem?_set_self (by omega), List.getElem?_append_right (by rw [List.length_take]; omega), List.length_take, Nat.min_eq_left (by omega), Nat.sub_self]
          rfl
        · rw [List.getElem?_eq_none (by rw [List.length_take]; omega), List.getElem?_eq_none (by rw [List.length_append, List.length_take]; simp; omega)]
    rw [e]
    simp
theorem Arr.setCells {g : Nat} {t : TypeId} : ∀ (vs : List Value) {w : World} {cur : List Value} (o : Nat), Arr w g t cur → Arr (w.setCells g o vs) g t (setL cur o vs)
  | [], w, cur, o, h => h
  | v :: r, w, cur, o, h => by
    rw [World.setCells, setL]
    exact Arr.setCells r (o + 1) (h.set o v)
theorem grown_setCells {a : World} {g : Nat} : ∀ (vs : List Value) {b : World} (o : Nat), a.grownBy b (some g) → a.grownBy (b.setCells g o vs) (some g)
  | [], b, o, h => h
  | v :: r, b, o, h => by
    rw [World.setCells]
    exact grown_setCells r (o + 1) (grown_set h o v)
end Go.Qm
namespace Go.Proofs.Qxb6500767a
open Go.RowKit Go.Qm
set_option linter.unusedVariables false
set_option linter.unusedSimpArgs false
theorem byteCells_cb (s : List UInt8) : byteCells ⟨s.toArray⟩ = s.map cb := rfl
theorem inf5e : ∃ i, Try.prog.info? 5 = some i ∧ i.zero = some (.int .u8 0) ∧ i.size = 1 ∧ i.bytes = 1 := by
  have h : (Try.prog.info? 5).map (fun i => (i.zero, i.size, i.bytes)) = some (some (.int .u8 0), 1, 1) := by kernel_rfl
  cases e : Try.prog.info? 5 with
  | none => rw [e] at h; cases h
  | some i =>
    rw [e] at h
    simp only [Option.map_some, Option.some.injEq, Prod.mk.injEq] at h
    exact ⟨i, rfl, h.1, h.2.1, h.2.2⟩
/-- 'append(out, s...)', s a string. -/
theorem run_appStr {w : World} {B : Nat} {v : Value} {xs : List UInt8} (hown : Own B 5 w v (xs.map cb)) (s : List UInt8) (hse : s ≠ []) (hb : xs.length + s.length ≤ 2 ^ 46) (hB : B ≤ w.heap.size) (ty : TypeId) :
    ∃ v' w', (Builtin.append_ #[64, 9] ty #[v, str s]).run Try.prog w = .ok v' w' ∧ Own B 5 w' v' ((xs ++ s).map cb) ∧ w.grownBy w' v.ownBlock ∧ (v'.ownBlock = v.ownBlock ∨ v'.ownBlock = some w.heap.size) := by
  obtain ⟨i, hi, hz, hs, hby⟩ := inf5e
  have src : Src Try.prog i.size 9 (str s) s.length (s.map cb) w := by rw [hs]; exact Src.ofString w Try.underlying9 ⟨s.toArray⟩
  have hlen : ((xs ++ s).map cb).length = xs.length + s.length := by simp
  have hmx : xs.length + s.length ≤ maxLen := by unfold maxLen; omega
  have hsl : 0 < s.length := List.length_pos_iff.2 hse
  have e1 : (xs.map cb).length = xs.length := by simp
  have grown : ∀ (old : Nat) (row : Option Nat), Own B 5 (w.drew.alloc (.cells ((xs.map cb ++ s.map cb).toArray ++ Builtin.zeroCells (Value.int .u8 0).cells (grownCap w (xs.length + s.length) old 5 - (xs.length + s.length))) 5)) (.slice (some ⟨w.heap.size, 0, none⟩) (xs.length + s.length) (grownCap w (xs.length + s.length) old 5)) ((xs ++ s).map cb) ∧
      w.grownBy (w.drew.alloc (.cells ((xs.map cb ++ s.map cb).toArray ++ Builtin.zeroCells (Value.int .u8 0).cells (grownCap w (xs.length + s.length) old 5 - (xs.length + s.length))) 5)) row := by
    intro old row
    have hge := grownCap_ge w (xs.length + s.length) old 5
    have hcm := grownCap_le_maxLen w (xs.length + s.length) old 5 hmx
    refine ⟨⟨by rw [Nat.mul_one], .inr ⟨w.heap.size, grownCap w (xs.length + s.length) old 5, _, by rw [hlen], hB, heap_alloc_new w.drew _, by rw [hlen]; exact hge, hcm, ?_, ?_⟩⟩, ⟨rfl, rfl, rfl, by simp, fun k hk _ => heap_alloc_old w.drew _ hk⟩⟩
    · have hz1 : (Value.int IntKind.u8 0).cells.size = 1 := rfl
      simp only [Array.size_append, List.size_toArray, size_zeroCells, hz1, List.length_append, List.length_map]
      omega
    · rw [hlen]
      simp only [Array.toList_append, Nat.mul_one]
      rw [← List.map_append, ← hlen]
      exact List.take_left
  rcases hown.2 with ⟨rfl, h0⟩ | ⟨g, cap, cur, rfl, hbg, hg, hnc, hcm, hcs, htake⟩
  · have hx : xs = [] := by simpa using h0
    subst hx
    have hr := run_append_grow_src (P := Try.prog) w 64 9 ty 5 i (.int .u8 0) Try.underlying64 hi hz none 0 0 [] (by simp [Builtin.firstCells]) (str s) s.length (s.map cb) src (by omega) (by omega) (by rw [hby]; exact growslice_fits (by omega) (by omega))
    have hgr := grown 0 (Value.ownBlock (.slice none 0 0))
    exact ⟨_, _, hr, hgr.1, hgr.2, Or.inr rfl⟩
  · rw [e1] at hnc htake ⊢
    by_cases hroom : xs.length + s.length ≤ cap
    · have hcl : cur.toList.length = cap := by simpa using hcs
      have hA : Arr w g 5 cur.toList := by unfold Arr; simpa using hg
      have hr := run_append_room_src (P := Try.prog) w 64 9 ty 5 i Try.underlying64 hi g 0 xs.length cap (str s) s.length (s.map cb) src hroom
        (fun j hj => by
          rw [hs, hA.cell]
          simp only [List.length_map] at hj
          rw [List.getElem?_eq_getElem (by rw [hcl]; omega)]; rfl)
        (fun j hj => hA.frozen _)
      rw [hs] at hr
      have A2 := Arr.setCells (s.map cb) (0 + xs.length * 1) hA
      refine ⟨_, _, hr, ⟨by rw [Nat.mul_one], .inr ⟨g, cap, (setL cur.toList (0 + xs.length * 1) (s.map cb)).toArray, by rw [hlen], hbg, A2, by rw [hlen]; exact hroom, hcm, ?_, ?_⟩⟩, grown_setCells (s.map cb) _ (grown_refl w _), Or.inl rfl⟩
      · rw [List.size_toArray, setL_length, hcl, Nat.mul_one]
      · have ht := setL_take (s.map cb) cur.toList (0 + xs.length * 1) (by rw [List.length_map, hcl]; omega)
        rw [List.length_map] at ht
        rw [hlen, List.toList_toArray, Nat.mul_one, show xs.length + s.length = 0 + xs.length * 1 + s.length by omega, ht]
        rw [show 0 + xs.length * 1 = xs.length * 1 by omega, htake, List.map_append]
    · have holds : ∀ j u, (xs.map cb)[j]? = some u → w.cell? ((⟨g, 0, none⟩ : Addr).add j) = some u := hown.cells (g := g) (by rw [e1]; rfl)
      have hr := run_append_grow_src (P := Try.prog) w 64 9 ty 5 i (.int .u8 0) Try.underlying64 hi hz (some ⟨g, 0, none⟩) xs.length cap (xs.map cb) (run_firstCells_some w.drew i.size xs.length ⟨g, 0, none⟩ _ cap (xs.map cb) (by rw [hs, Nat.mul_one, e1]) (by simpa using holds)) (str s) s.length (s.map cb) src (by omega) (by omega) (by rw [hby]; exact growslice_fits (by omega) (by omega))
      have hgr := grown cap (Value.ownBlock (.slice (some ⟨g, 0, none⟩) xs.length cap))
      exact ⟨_, _, hr, hgr.1, hgr.2, Or.inr rfl⟩
end Go.Proofs.Qxb6500767a
