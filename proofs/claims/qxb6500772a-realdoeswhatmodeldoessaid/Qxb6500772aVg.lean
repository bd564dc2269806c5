/- A region that draws its order: each operation's answer is said by a ghost that may grow with what has come up. -/
import Derived.Test.Qxb6500772aVa
namespace Go.Qm
open Go Go.RowKit
set_option linter.unusedSimpArgs false
set_option linter.unusedVariables false
structure VG {α : Type} (ops : Array Oper) (m : Nat) (sl : List Nat) (L : α → List (Nat × Value)) (C : Array Bool → α → World → Prop) (a0 : Act) (listed : Array Bool) (a : Act) (w : World) (p : α) : Prop where
  no : ∀ i, m ≤ i → listed.getD i false = false
  cw : C listed p w
  df : a.defers = a0.defers
  sz : a.tmps.size = a0.tmps.size
  ot : ∀ t, t ∉ sl → a.tmps[t]? = a0.tmps[t]?
  vl : ∀ i x, (L p)[i]? = some x → listed.getD i false = true → a.tmps[x.1]? = some x.2
theorem wp_region_gh {P : Program} {ops : Array Oper} {Q : Exit → Act → World → Prop} {id : Nat} {a0 : Act} {w : World} (hm : P.follows .mixedOrders = true) {α : Type} (m : Nat) (sl : List Nat) (L : α → List (Nat × Value)) (hL : ∀ p, (L p).map Prod.fst = sl) (hsl : sl.length = m) (hmn : m ≤ ops.size)
    (hc : chk ops m = true) (hnd : sl.Nodup) (hsz : ∀ d ∈ sl, d < a0.tmps.size) (C : Array Bool → α → World → Prop) (h0 : ∃ p, C (Array.replicate ops.size false) p w.drew)
    (hstep : ∀ i d, sl[i]? = some d → ∀ listed p a w, listed.size = ops.size → Down ops listed → listed.getD i false = false → (∀ j ∈ bdeps ops i, listed.getD j false = true) → C listed p w → (∀ t, t ∉ sl → a.tmps[t]? = a0.tmps[t]?) → (∀ j x, (L p)[j]? = some x → listed.getD j false = true → a.tmps[x.1]? = some x.2) →
      wpOp P ops Q i (fun a' w' => ∃ p' x, (L p')[i]? = some x ∧ a' = a.put (some x.1) x.2 ∧ C (listed.setIfInBounds i true) p' w' ∧ ∀ j, listed.getD j false = true → (L p')[j]? = (L p)[j]?) a w)
    (htail : ∀ listed p w, (∀ i < m, listed.getD i false = true) → C listed p w → wpOps P ops Q (List.range' m (ops.size - m)) (lay a0 (L p)) w) : (Code.region id ops true).wp P Q a0 w := by
  have hfull : ∀ listed a w p, VG ops m sl L C a0 listed a w p → (∀ i < m, listed.getD i false = true) → a = lay a0 (L p) := by
    intro listed a w p h hall
    refine act_ext (fun t => ?_) (by rw [h.df, lay_defers])
    by_cases ht : t ∈ sl
    · rw [← hL p] at ht
      obtain ⟨x, hx, rfl⟩ := List.mem_map.1 ht
      obtain ⟨i, hi, hi2⟩ := List.mem_iff_getElem.1 hx
      rw [lay_at (L p) a0 (by rw [hL p]; exact hnd) (fun y hy => hsz _ (by rw [← hL p]; exact List.mem_map_of_mem hy)) _ hx]
      have hlen : (L p).length = m := by rw [← hsl, ← hL p, List.length_map]
      exact h.vl i x (by rw [← hi2]; simp [hi]) (hall i (by omega))
    · rw [lay_other (L p) a0 t (by rw [hL p]; exact ht)]
      exact h.ot t ht
  obtain ⟨p0, hp0⟩ := h0
  refine wp_region_any hm (wpAny_inv (fun listed a w => Down ops listed ∧ ((∃ p, VG ops m sl L C a0 listed a w p) ∨ ∃ k, m < k ∧ k ≤ ops.size ∧ (∀ i, listed.getD i false = decide (i < k)) ∧ wpOps P ops Q (List.range' k (ops.size - k)) a w)) ?_ ?_ _ _ _ _ (by simp) (by simp [todo]) ⟨?_, Or.inl ⟨p0, ?_, hp0, rfl, rfl, fun _ _ => rfl, ?_⟩⟩)
  · rintro listed a w hs ⟨hd, hI⟩ i hi
    obtain ⟨g1, g2⟩ := ready_mem hi
    have g3 := ready_deps hi
    have g4 : listed.getD i false = false := by
      have hl' : i < listed.size := by omega
      simp only [Array.getD, hl', dite_true] at g2 ⊢
      exact g2
    have hd' : Down ops (listed.setIfInBounds i true) := by
      intro x hx j hj
      rw [got_set (by omega)] at hx ⊢
      split
      · rfl
      · split at hx
        · rename_i e; subst e; exact g3 j hj
        · exact hd x hx j hj
    rcases hI with ⟨p, hI⟩ | ⟨k, k1, k2, k3, k4⟩
    · by_cases him : i < m
      · obtain ⟨d, hdd⟩ : ∃ d, sl[i]? = some d := ⟨sl[i], by simp [hsl, him]⟩
        refine wpOp_mono ?_ (hstep i d hdd listed p a w hs hd g4 g3 hI.cw hI.ot hI.vl)
        rintro a' w' ⟨p', x, hx, rfl, hc', hsame⟩
        have hx1 : x.1 = d := by
          have h9 : ((L p').map Prod.fst)[i]? = some x.1 := by rw [List.getElem?_map, hx]; rfl
          rw [hL p', hdd] at h9
          exact (Option.some.inj h9).symm
        refine ⟨hd', Or.inl ⟨p', ?_, hc', by rw [vdefers_put]; exact hI.df, by rw [vsize_put]; exact hI.sz, ?_, ?_⟩⟩
        · intro j hj
          rw [got_set (by omega), if_neg (by omega)]
          exact hI.no j hj
        · intro t ht
          rw [vget_put, if_neg]
          · exact hI.ot t ht
          · rintro rfl
            rw [hx1] at ht
            exact ht (List.mem_of_getElem? hdd)
        · intro j y hy hl
          rw [vget_put, hI.sz]
          by_cases e : i = j
          · subst e
            rw [hx] at hy
            obtain rfl := Option.some.inj hy
            rw [if_pos rfl, if_pos (by rw [hx1]; exact hsz d (List.mem_of_getElem? hdd))]
          · rw [got_set (by omega), if_neg e] at hl
            rw [if_neg]
            · exact hI.vl j y (by rw [← hsame j hl]; exact hy) hl
            · intro e2
              have h8 : sl[j]? = some y.1 := by rw [← hL p', List.getElem?_map, hy]; rfl
              rw [hx1] at e2
              rw [← e2] at h8
              obtain ⟨hi1, hi2⟩ := List.getElem?_eq_some_iff.1 hdd
              obtain ⟨hj1, hj2⟩ := List.getElem?_eq_some_iff.1 h8
              exact e ((List.getElem_inj (h₀ := hi1) (h₁ := hj1) hnd).1 (by rw [hi2, hj2]))
      · have hall := hd.all hc g1 (by omega) g3
        have him' : i = m := by
          by_cases e : i = m
          · exact e
          · have := hall m (by omega)
            rw [hI.no m (Nat.le_refl _)] at this
            simp at this
        subst him'
        have ha := hfull listed a w p hI hall
        subst ha
        have ht := htail listed p w hall hI.cw
        have e1 : ops.size - i = (ops.size - (i + 1)) + 1 := by omega
        rw [e1, List.range'_succ, wpOps_cons] at ht
        refine wpOp_mono ?_ ht
        intro a' w' h'
        refine ⟨hd', Or.inr ⟨i + 1, by omega, by omega, ?_, h'⟩⟩
        intro j
        rw [got_set (by omega)]
        by_cases e : i = j
        · subst e; simp
        · rw [if_neg e]
          by_cases e3 : j < i
          · rw [hall j e3]; simp; omega
          · rw [hI.no j (by omega)]; simp; omega
    · have hik : i = k := by
        have hall := hd.all hc g1 (by have := k3 i; rw [g4] at this; simp at this; omega) g3
        have h1 := k3 i
        rw [g4] at h1
        simp at h1
        by_cases e : i = k
        · exact e
        · have := hall k (by omega)
          rw [k3 k] at this
          simp at this
      subst hik
      have e1 : ops.size - i = (ops.size - (i + 1)) + 1 := by omega
      rw [e1, List.range'_succ, wpOps_cons] at k4
      refine wpOp_mono ?_ k4
      intro a' w' h'
      refine ⟨hd', Or.inr ⟨i + 1, by omega, by omega, ?_, h'⟩⟩
      intro j
      rw [got_set (by omega), k3 j]
      by_cases e : i = j
      · subst e; simp
      · rw [if_neg e]
        by_cases e3 : j < i
        · simp [e3]; omega
        · simp [e3]; omega
  · rintro listed a w hs ⟨hd, hI⟩ hr
    have hall := ready_nil hs hc hr
    rcases hI with ⟨p, hI⟩ | ⟨k, k1, k2, k3, k4⟩
    · have e : m = ops.size := by
        by_cases e : m = ops.size
        · exact e
        · have := hall m (by omega)
          rw [hI.no m (Nat.le_refl _)] at this
          simp at this
      have ha := hfull listed a w p hI (fun i hi => hall i (by omega))
      have ht := htail listed p w (fun i hi => hall i (by omega)) hI.cw
      rw [e, Nat.sub_self] at ht
      rw [ha]
      exact ht
    · have e : k = ops.size := by
        by_cases e : k = ops.size
        · exact e
        · have := hall k (by omega)
          rw [k3 k] at this
          simp at this
      rw [e, Nat.sub_self] at k4
      exact k4
  · intro i hi
    simp [Array.getD_eq_getD_getElem?, Array.getElem?_replicate] at hi
    split at hi <;> simp at hi
  · intro i hi
    simp [Array.getD_eq_getD_getElem?, Array.getElem?_replicate]
    split <;> rfl
  · intro i x hx hl
    simp [Array.getD_eq_getD_getElem?, Array.getElem?_replicate] at hl
    split at hl <;> simp at hl
end Go.Qm
