/- circuitm: Eval. -/
import Derived.Test.Qxb6500772aCk
import Derived.Deep.RegionHeld3
namespace Go.Proofs.Qxb6500772a
open Go.RowKit Go.Qm
set_option linter.unusedVariables false
set_option linter.unusedSimpArgs false
attribute [local go_sem ↓] Go.wp_at_zero Go.wp_at_succ
theorem inf28 : (Try.prog.info? 28).map (fun i => (i.zero, i.size, i.bytes)) = some (some (.int .u64 0), 1, 8) := by kernel_rfl
/-- The gates in memory, one by one. -/
theorem CC.row {B gc n : Nat} {X : Nat → Prop} {w : World} {gv : Value} {G : List Gate} (h : CC B X w gc gv G n) : ∃ a c, gv = .slice a G.length c ∧ G.length ≤ c ∧ c ≤ maxLen ∧ w.cell? ⟨gc, 0, none⟩ = some gv ∧ ∀ i (hi : i < G.length), ∃ g xv yv, a = some ⟨g, 0, none⟩ ∧ Wd w xv G[i].x ∧ Wd w yv G[i].y ∧ ∀ j < 6, w.cell? ⟨g, i * 6 + j, none⟩ = (gateC (G[i], xv, yv))[j]? := by
  obtain ⟨R, h, rfl, -⟩ := h
  have h0 : w.cell? ⟨gc, 0, none⟩ = some gv := h.arr.cell 0
  rcases h.own.form with ⟨e, e2⟩ | ⟨g, cap, cur, e, hB, hA, h1, h2, h3, h4⟩
  · subst e2
    exact ⟨none, 0, e, by simp, by simp [maxLen], h0, fun i hi => by simp at hi⟩
  · refine ⟨_, _, by rw [e, List.length_map], by simpa using h1, h2, h0, fun i hi => ?_⟩
    have hi' : i < R.length := by simpa using hi
    have r := h.row R[i] (List.getElem_mem hi')
    refine ⟨g, R[i].2.1, R[i].2.2, rfl, by simpa using r.x, by simpa using r.y, fun j hj => ?_⟩
    rw [hA.cell, flat_take_get gateC_len h4 i j hi' hj]
    simp
theorem getD_pad {vs : List Nat} {b N : Nat} (hb : b < N) (hN : vs.length ≤ N) : ∃ h : b < (vs ++ List.replicate (N - vs.length) 0).length, (vs ++ List.replicate (N - vs.length) 0)[b] = vs.getD b 0 := by
  refine ⟨by simp; omega, ?_⟩
  by_cases e : b < vs.length
  · rw [List.getElem_append_left e]; simp [List.getD_eq_getElem?_getD, e]
  · rw [List.getElem_append_right (by omega)]; simp [List.getD_eq_getElem?_getD, Nat.le_of_not_lt e]
/-- The row of values while it is being made. -/
def EvR (w : World) (gV N : Nat) (vs : List Nat) : Prop := Arr w gV 28 ((vs ++ List.replicate (N - vs.length) 0).map uv) ∧ vs.length ≤ N
theorem EvR.cell {w : World} {gV N : Nat} {vs : List Nat} (h : EvR w gV N vs) {b : Nat} (hb : b < N) : w.cell? ⟨gV, b, none⟩ = some (.int .u64 ((vs.getD b 0 : Nat) : Int)) := by
  obtain ⟨h1, h2⟩ := getD_pad hb h.2
  rw [h.1.cell, List.getElem?_map, List.getElem?_eq_getElem h1, h2]
  rfl
theorem EvR.vs {w : World} {gV N : Nat} {vs : List Nat} (h : EvR w gV N vs) (hm : N ≤ maxLen) : Vs w (.slice (some ⟨gV, 0, none⟩) N N) (vs ++ List.replicate (N - vs.length) 0) := by
  have hl : (vs ++ List.replicate (N - vs.length) 0).length = N := by have := h.2; simp; omega
  refine ⟨some ⟨gV, 0, none⟩, N, by rw [List.length_map, hl], by rw [List.length_map, hl]; exact Nat.le_refl _, hm, fun k u hu => ⟨gV, 0, rfl, ?_⟩⟩
  rw [Nat.zero_add, h.1.cell, hu]
theorem EvR.set {w : World} {gV N : Nat} {vs : List Nat} (h : EvR w gV N vs) (hb : vs.length < N) (u : Nat) : EvR (w.setCell ⟨gV, vs.length, none⟩ (.int .u64 (u : Nat))) gV N (vs ++ [u]) := by
  refine ⟨?_, by simp; omega⟩
  have := h.1.set vs.length (.int .u64 (u : Nat))
  have e : ((vs ++ List.replicate (N - vs.length) 0).map uv).set vs.length (.int .u64 (u : Nat)) = ((vs ++ [u]) ++ List.replicate (N - (vs ++ [u]).length) 0).map uv := by
    rw [show (.int .u64 (u : Nat) : Value) = uv u from rfl, ← List.map_set, List.set_append_right _ _ (Nat.le_refl _), Nat.sub_self]
    rw [show N - vs.length = (N - (vs ++ [u]).length) + 1 by simp; omega, List.replicate_succ]
    simp
  rw [e] at this
  exact this
theorem EvR.zero {w : World} {gV N : Nat} {vs : List Nat} (h : EvR w gV N vs) (hb : vs.length < N) : EvR w gV N (vs ++ [0]) := by
  refine ⟨?_, by simp; omega⟩
  have h1 := h.1
  rw [show N - vs.length = (N - (vs ++ [0]).length) + 1 by simp; omega, List.replicate_succ] at h1
  simpa using h1
theorem EvR.keep {w w' : World} {gV N : Nat} {vs : List Nat} (h : EvR w gV N vs) (k : Keep w w') : EvR w' gV N vs := ⟨h.1.keep k, h.2⟩
/-- The values that a bit takes on the way. -/
theorem val_le {G : List Gate} {b : Nat} (h : isBit G b) (inp : Nat → Bool) (k : Nat) : (ev (G.take k) inp).getD b 0 ≤ 1 := by
  obtain ⟨f, hf⟩ := h
  by_cases e : b < (G.take k).length
  · have := val_ext (List.take_prefix k G) inp e
    have h2 := hf.2 inp
    unfold val at this h2
    rw [← this, h2]
    cases f inp <;> simp
  · have : (ev (G.take k) inp).getD b 0 = 0 := by
      rw [List.getD_eq_getElem?_getD, List.getElem?_eq_none (by rw [ev_len]; omega)]; rfl
    omega
theorem ev_take {G : List Gate} {k : Nat} (hk : k < G.length) (inp : Nat → Bool) : ev (G.take (k + 1)) inp = ev (G.take k) inp ++ [gvl inp (ev (G.take k) inp) G[k]] := by
  rw [List.take_succ_eq_append_getElem hk, ev_append]; rfl
theorem wordN_len {vs l : List Nat} (h : ∀ b ∈ l, vs.getD b 0 ≤ 1) : wordN vs l < 2 ^ l.length := by
  have := wordN_take h l.length
  rwa [List.take_length] at this
theorem wop_64 {op x y wd : Nat} (h1 : 1 ≤ wd) (h2 : wd ≤ 64) (hx : x < 2 ^ wd) (hop : op ≤ 6) : wop op x y wd < 2 ^ 64 := Nat.lt_of_lt_of_le (wop_lt h1 hx hop) (Nat.pow_le_pow_right (by decide) h2)
theorem ev_lt {G : List Gate} (h : WFG G) (inp : Nat → Bool) : ∀ k, k ≤ G.length → ∀ v ∈ ev (G.take k) inp, v < 2 ^ 64 := by
  intro k
  induction k with
  | zero => intro _ v hv; simp [ev] at hv
  | succ k ih =>
    intro hk v hv
    rw [ev_take (by omega)] at hv
    rcases List.mem_append.1 hv with a | a
    · exact ih (by omega) v a
    · rw [List.mem_singleton.1 a]
      have hg := h.1 G[k] (List.getElem_mem (by omega))
      have hle := fun b (hb : isBit G b) => val_le hb inp k
      generalize G[k] = g at *
      generalize ev (G.take k) inp = vs at *
      unfold gvl
      split
      · cases inp g.a <;> simp
      split
      · omega
      split
      · rename_i e
        exact Nat.lt_of_le_of_lt Nat.and_le_left (by have := hle _ (hg.d e).1; omega)
      split
      · rename_i e
        obtain ⟨l1, l2, l3, l4⟩ := hg.l e
        exact wop_64 l2 l3 (wordN_len fun b hb => hle b (hg.x e b hb)) l4
      split
      · omega
      · decide
theorem ev_getlt {G : List Gate} (h : WFG G) (inp : Nat → Bool) {k : Nat} (hk : k ≤ G.length) (b : Nat) : (ev (G.take k) inp).getD b 0 < 2 ^ 64 := by
  rw [List.getD_eq_getElem?_getD]
  cases e : (ev (G.take k) inp)[b]? with
  | none => simp
  | some v => exact ev_lt h inp k hk v (List.mem_of_getElem? e)
end Go.Proofs.Qxb6500772a
