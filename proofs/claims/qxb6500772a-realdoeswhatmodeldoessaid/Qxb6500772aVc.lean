/- A region that draws its order, with one variable that is made in it. -/
import Derived.Test.Qxb6500772aVa
namespace Go.Qm
open Go Go.RowKit
set_option linter.unusedSimpArgs false
set_option linter.unusedVariables false
structure VJ (ops : Array Oper) (m q d : Nat) (L : List (Nat × Value)) {α : Type} (val : α → Value) (J : World → Prop) (G : α → World → Prop) (a0 : Act) (listed : Array Bool) (a : Act) (w : World) : Prop where
  no : ∀ i, m ≤ i → listed.getD i false = false
  jw : listed.getD q false = false → J w
  df : a.defers = a0.defers
  sz : a.tmps.size = a0.tmps.size
  ot : ∀ t, t ∉ L.map Prod.fst → a.tmps[t]? = a0.tmps[t]?
  vl : ∀ i x, L[i]? = some x → i ≠ q → listed.getD i false = true → a.tmps[x.1]? = some x.2
  vq : listed.getD q false = true → ∃ p, a.tmps[d]? = some (val p) ∧ G p w
theorem wp_region_var {P : Program} {ops : Array Oper} {Q : Exit → Act → World → Prop} {id : Nat} {a0 : Act} {w : World} (hm : P.follows .mixedOrders = true) (m : Nat) (L : List (Nat × Value)) (hL : L.length = m) (hmn : m ≤ ops.size)
    (hc : chk ops m = true) (hnd : (L.map Prod.fst).Nodup) (hsz : ∀ x ∈ L, x.1 < a0.tmps.size) (q d : Nat) (hq : q < m) (hd : ∃ z, L[q]? = some (d, z)) {α : Type} (val : α → Value) (J : World → Prop) (G : α → World → Prop) (h0 : J w.drew)
    (hstep : ∀ i x, L[i]? = some x → i ≠ q → ∀ a w, (J w ∨ ∃ p, G p w) → (∀ t, t ∉ L.map Prod.fst → a.tmps[t]? = a0.tmps[t]?) → (∀ j ∈ bdeps ops i, ∀ y, L[j]? = some y → j ≠ q → a.tmps[y.1]? = some y.2) → wpOp P ops Q i (fun a' w' => a' = a.put (some x.1) x.2 ∧ (J w → J w') ∧ ∀ p, G p w → G p w') a w)
    (hvar : ∀ a w, J w → (∀ t, t ∉ L.map Prod.fst → a.tmps[t]? = a0.tmps[t]?) → (∀ j ∈ bdeps ops q, ∀ y, L[j]? = some y → j ≠ q → a.tmps[y.1]? = some y.2) → wpOp P ops Q q (fun a' w' => ∃ p, a' = a.put (some d) (val p) ∧ G p w') a w)
    (htail : ∀ w p, G p w → wpOps P ops Q (List.range' m (ops.size - m)) (lay a0 (L.set q (d, val p))) w) : (Code.region id ops true).wp P Q a0 w := by
  obtain ⟨z0, hdd⟩ := hd
  have hqL : q < L.length := by omega
  have hmap : ∀ p, (L.set q (d, val p)).map Prod.fst = L.map Prod.fst := fun p => by
    apply List.ext_getElem?
    intro i
    rw [List.getElem?_map, List.getElem?_map, List.getElem?_set]
    split
    · rename_i e
      subst e
      rw [hdd]
      simp [hqL]
    · rfl
  have hfull : ∀ listed a w, VJ ops m q d L val J G a0 listed a w → (∀ i < m, listed.getD i false = true) → ∃ p, a = lay a0 (L.set q (d, val p)) ∧ G p w := by
    intro listed a w h hall
    obtain ⟨p, hp, hg⟩ := h.vq (hall q hq)
    refine ⟨p, ?_, hg⟩
    refine act_ext (fun t => ?_) (by rw [h.df, lay_defers])
    by_cases ht : t ∈ L.map Prod.fst
    · rw [← hmap p] at ht
      obtain ⟨x, hx, rfl⟩ := List.mem_map.1 ht
      obtain ⟨i, hi, rfl⟩ := List.mem_iff_getElem.1 hx
      have hsz' : ∀ x ∈ L.set q (d, val p), x.1 < a0.tmps.size := fun x hx => by
        have h1 : x.1 ∈ (L.set q (d, val p)).map Prod.fst := List.mem_map_of_mem hx
        rw [hmap p] at h1
        obtain ⟨y, hy, e⟩ := List.mem_map.1 h1
        rw [← e]; exact hsz y hy
      rw [lay_at (L.set q (d, val p)) a0 (by rw [hmap p]; exact hnd) hsz' _ hx]
      have hi' : i < L.length := by simpa using hi
      rw [List.getElem_set]
      split
      · exact hp
      · rename_i e
        exact h.vl i L[i] (by simp [hi']) (fun a => e a.symm) (hall i (by omega))
    · rw [lay_other (L.set q (d, val p)) a0 t (by rw [hmap p]; exact ht)]
      exact h.ot t ht
  refine wp_region_any hm (wpAny_inv (fun listed a w => Down ops listed ∧ (VJ ops m q d L val J G a0 listed a w ∨ ∃ k, m < k ∧ k ≤ ops.size ∧ (∀ i, listed.getD i false = decide (i < k)) ∧ wpOps P ops Q (List.range' k (ops.size - k)) a w)) ?_ ?_ _ _ _ _ (by simp) (by simp [todo]) ⟨?_, Or.inl ⟨?_, fun _ => h0, rfl, rfl, fun _ _ => rfl, ?_, ?_⟩⟩)
  · rintro listed a w hs ⟨hd, hI⟩ i hi
    obtain ⟨g1, g2⟩ := ready_mem hi
    have g3 := ready_deps hi
    have g4 : listed.getD i false = false := by
      have hl' : i < listed.size := by omega
      simp only [Array.getD, hl', dite_true] at g2 ⊢
      exact g2
    have hd' : Down ops (listed.setIfInBounds i true) := by
      intro x hx j hj
      rw [got_set (by omega)] at hx ⊢
      split
      · rfl
      · split at hx
        · rename_i e; subst e; exact g3 j hj
        · exact hd x hx j hj
    rcases hI with hI | ⟨k, k1, k2, k3, k4⟩
    · by_cases him : i < m
      · obtain ⟨x, hx⟩ : ∃ x, L[i]? = some x := ⟨L[i], by simp [hL, him]⟩
        have other : ∀ (v : Value) j y, L[j]? = some y → i ≠ j → (a.put (some x.1) v).tmps[y.1]? = a.tmps[y.1]? := fun v j y hy e => by
          rw [vget_put, if_neg]
          intro e2
          obtain ⟨hi1, hi2⟩ := List.getElem?_eq_some_iff.1 hx
          obtain ⟨hj1, hj2⟩ := List.getElem?_eq_some_iff.1 hy
          have := (List.getElem_inj (xs := L.map Prod.fst) (i := i) (j := j) (h₀ := by simpa using hi1) (h₁ := by simpa using hj1) hnd).1 (by simp [hi2, hj2, e2])
          exact e this
        have outer : ∀ v : Value, ∀ t, t ∉ L.map Prod.fst → (a.put (some x.1) v).tmps[t]? = a0.tmps[t]? := fun v t ht => by
          rw [vget_put, if_neg]
          · exact hI.ot t ht
          · rintro rfl
            exact ht (List.mem_map.2 ⟨x, List.mem_of_getElem? hx, rfl⟩)
        by_cases hiq : i = q
        · subst hiq
          rw [hdd] at hx
          obtain rfl := Option.some.inj hx
          refine wpOp_mono ?_ (hvar a w (hI.jw g4) hI.ot (fun j hj y hy hjq => hI.vl j y hy hjq (g3 j hj)))
          rintro a' w' ⟨p, rfl, hg'⟩
          refine ⟨hd', Or.inl ⟨?_, fun hl => absurd hl (by rw [got_set (by omega), if_pos rfl]; decide), by rw [vdefers_put]; exact hI.df, by rw [vsize_put]; exact hI.sz, outer _, ?_, ?_⟩⟩
          · intro j hj
            rw [got_set (by omega), if_neg (by omega)]
            exact hI.no j hj
          · intro j y hy hjq hl
            rw [got_set (by omega), if_neg (Ne.symm hjq)] at hl
            have := other (val p) j y hy (Ne.symm hjq)
            rw [this]
            exact hI.vl j y hy hjq hl
          · intro _
            refine ⟨p, ?_, hg'⟩
            rw [vget_put, hI.sz, if_pos rfl, if_pos (hsz (d, z0) (List.mem_of_getElem? hdd))]
        · refine wpOp_mono ?_ (hstep i x hx hiq a w (by
            cases hl : listed.getD q false with
            | false => exact Or.inl (hI.jw hl)
            | true => obtain ⟨p, -, hg⟩ := hI.vq hl; exact Or.inr ⟨p, hg⟩) hI.ot (fun j hj y hy hjq => hI.vl j y hy hjq (g3 j hj)))
          rintro a' w' ⟨rfl, hj', hG⟩
          refine ⟨hd', Or.inl ⟨?_, fun hl => hj' (hI.jw (by rw [got_set (by omega), if_neg hiq] at hl; exact hl)), by rw [vdefers_put]; exact hI.df, by rw [vsize_put]; exact hI.sz, outer _, ?_, ?_⟩⟩
          · intro j hj
            rw [got_set (by omega), if_neg (by omega)]
            exact hI.no j hj
          · intro j y hy hjq hl
            by_cases e : i = j
            · subst e
              rw [hx] at hy
              obtain rfl := Option.some.inj hy
              rw [vget_put, hI.sz, if_pos rfl, if_pos (hsz x (List.mem_of_getElem? hx))]
            · rw [other _ j y hy e]
              rw [got_set (by omega), if_neg e] at hl
              exact hI.vl j y hy hjq hl
          · intro hl
            rw [got_set (by omega), if_neg hiq] at hl
            obtain ⟨p, hp, hg⟩ := hI.vq hl
            have := other x.2 q (d, z0) hdd hiq
            exact ⟨p, by rw [this]; exact hp, hG p hg⟩
      · have hall := hd.all hc g1 (by omega) g3
        have him' : i = m := by
          by_cases e : i = m
          · exact e
          · have := hall m (by omega)
            rw [hI.no m (Nat.le_refl _)] at this
            simp at this
        subst him'
        obtain ⟨p, ha, hgp⟩ := hfull listed a w hI hall
        subst ha
        have ht := htail w p hgp
        have e1 : ops.size - i = (ops.size - (i + 1)) + 1 := by omega
        rw [e1, List.range'_succ, wpOps_cons] at ht
        refine wpOp_mono ?_ ht
        intro a' w' h'
        refine ⟨hd', Or.inr ⟨i + 1, by omega, by omega, ?_, h'⟩⟩
        intro j
        rw [got_set (by omega)]
        by_cases e : i = j
        · subst e; simp
        · rw [if_neg e]
          by_cases e3 : j < i
          · rw [hall j e3]; simp; omega
          · rw [hI.no j (by omega)]; simp; omega
    · have hik : i = k := by
        have hall := hd.all hc g1 (by have := k3 i; rw [g4] at this; simp at this; omega) g3
        have h1 := k3 i
        rw [g4] at h1
        simp at h1
        by_cases e : i = k
        · exact e
        · have := hall k (by omega)
          rw [k3 k] at this
          simp at this
      subst hik
      have e1 : ops.size - i = (ops.size - (i + 1)) + 1 := by omega
      rw [e1, List.range'_succ, wpOps_cons] at k4
      refine wpOp_mono ?_ k4
      intro a' w' h'
      refine ⟨hd', Or.inr ⟨i + 1, by omega, by omega, ?_, h'⟩⟩
      intro j
      rw [got_set (by omega), k3 j]
      by_cases e : i = j
      · subst e; simp
      · rw [if_neg e]
        by_cases e3 : j < i
        · simp [e3]; omega
        · simp [e3]; omega
  · rintro listed a w hs ⟨hd, hI⟩ hr
    have hall := ready_nil hs hc hr
    rcases hI with hI | ⟨k, k1, k2, k3, k4⟩
    · have e : m = ops.size := by
        by_cases e : m = ops.size
        · exact e
        · have := hall m (by omega)
          rw [hI.no m (Nat.le_refl _)] at this
          simp at this
      obtain ⟨p, ha, hgp⟩ := hfull listed a w hI (fun i hi => hall i (by omega))
      have ht := htail w p hgp
      rw [e, Nat.sub_self] at ht
      rw [ha]
      exact ht
    · have e : k = ops.size := by
        by_cases e : k = ops.size
        · exact e
        · have := hall k (by omega)
          rw [k3 k] at this
          simp at this
      rw [e, Nat.sub_self] at k4
      exact k4
  · intro i hi
    simp [Array.getD_eq_getD_getElem?, Array.getElem?_replicate] at hi
    split at hi <;> simp at hi
  · intro i hi
    simp [Array.getD_eq_getD_getElem?, Array.getElem?_replicate]
    split <;> rfl
  · intro i x hx _ hl
    simp [Array.getD_eq_getD_getElem?, Array.getElem?_replicate] at hl
    split at hl <;> simp at hl
  · intro hl
    simp [Array.getD_eq_getD_getElem?, Array.getElem?_replicate] at hl
    split at hl <;> simp at hl
end Go.Qm
