/- A region that draws its order, all of whose operations but the last few have one answer, whatever the order. -/
import Derived.Test.Qxb6500772aMem
import Derived.Orders
namespace Go.Qm
open Go Go.RowKit
/-- How many operations are still to come. -/
def todo (listed : Array Bool) : Nat := (listed.toList.filter (fun b => !b)).length
theorem todo_set {listed : Array Bool} {i : Nat} (hi : i < listed.size) (hf : listed.getD i true = false) : todo (listed.setIfInBounds i true) + 1 = todo listed := by
  have hl : i < listed.toList.length := by simpa using hi
  have hg : listed.toList[i] = false := by
    have : listed.getD i true = listed[i] := by simp [Array.getD, hi]
    rw [this] at hf
    simpa using hf
  have e : listed.toList = listed.toList.take i ++ false :: listed.toList.drop (i + 1) := by
    rw [← hg, ← List.drop_eq_getElem_cons hl, List.take_append_drop]
  unfold todo
  rw [Array.toList_setIfInBounds, List.set_eq_take_append_cons_drop, if_pos hl]
  conv => rhs; rw [e]
  simp [List.filter_append]
  omega
theorem ready_mem {md : Region.Mode} {ops : Array Oper} {listed : Array Bool} {i : Nat} (h : i ∈ Region.ready md ops listed) : i < ops.size ∧ listed.getD i true = false := by
  unfold Region.ready at h
  simp only [List.mem_filter, List.mem_range, Bool.and_eq_true, Bool.not_eq_true'] at h
  exact ⟨h.1, h.2.1⟩
theorem wpAny_inv {P : Program} {md : Region.Mode} {ops : Array Oper} {Q : Exit → Act → World → Prop} (I : Array Bool → Act → World → Prop)
    (hstep : ∀ listed a w, listed.size = ops.size → I listed a w → ∀ i, i ∈ Region.ready md ops listed → wpOp P ops Q i (fun a' w' => I (listed.setIfInBounds i true) a' w') a w)
    (hend : ∀ listed a w, listed.size = ops.size → I listed a w → Region.ready md ops listed = [] → Q .normal a w) :
    ∀ (fuel : Nat) (listed : Array Bool) (a : Act) (w : World), listed.size = ops.size → todo listed ≤ fuel → I listed a w → wpAny P md ops Q fuel listed a w
  | 0, listed, a, w, hs, ht, hI => by
    have hr : Region.ready md ops listed = [] := by
      apply List.eq_nil_iff_forall_not_mem.2
      intro i hi
      obtain ⟨h1, h2⟩ := ready_mem hi
      have := todo_set (i := i) (by omega) h2
      omega
    exact ⟨hr, hend listed a w hs hI hr⟩
  | fuel + 1, listed, a, w, hs, ht, hI =>
    ⟨fun hr => hend listed a w hs hI hr, fun i hi => wpOp_mono (fun a' w' h' => wpAny_inv I hstep hend fuel _ a' w' (by simpa using hs) (by
      obtain ⟨h1, h2⟩ := ready_mem hi
      have := todo_set (i := i) (by omega) h2
      omega) h') (hstep listed a w hs hI i hi)⟩
/-- What binds operation i. -/
def bdeps (ops : Array Oper) (i : Nat) : List Nat :=
  match ops[i]? with
  | none => []
  | some o => (o.after.toList.filter (Region.binds .any)).map (·.on)
theorem ready_deps {ops : Array Oper} {listed : Array Bool} {i : Nat} (h : i ∈ Region.ready .any ops listed) : ∀ j ∈ bdeps ops i, listed.getD j false = true := by
  have h1 := (ready_mem h).1
  unfold Region.ready at h
  simp only [List.mem_filter, List.mem_range, Bool.and_eq_true, Bool.not_eq_true'] at h
  have h3 := h.2.2
  have ho : ops[i]? = some ops[i] := by simp [h1]
  unfold bdeps
  rw [ho] at h3 ⊢
  simp only [Option.map_some, Option.getD_some, ← Array.all_toList, List.all_eq_true] at h3
  intro j hj
  simp only [List.mem_map, List.mem_filter] at hj
  obtain ⟨e, ⟨he, hb⟩, rfl⟩ := hj
  have := h3 e he
  simpa [hb] using this
theorem deps_ready {ops : Array Oper} {listed : Array Bool} {i : Nat} (hi : i < ops.size) (hl : listed.getD i true = false) (h : ∀ j ∈ bdeps ops i, listed.getD j false = true) : i ∈ Region.ready .any ops listed := by
  have ho : ops[i]? = some ops[i] := by simp [hi]
  unfold bdeps at h
  rw [ho] at h
  simp only [List.mem_map, List.mem_filter] at h
  unfold Region.ready
  simp only [List.mem_filter, List.mem_range, Bool.and_eq_true, Bool.not_eq_true']
  refine ⟨hi, hl, ?_⟩
  rw [ho]
  simp only [Option.map_some, Option.getD_some, ← Array.all_toList, List.all_eq_true]
  intro e he
  by_cases hb : Region.binds .any e = true
  · simp [hb, h e.on ⟨e, ⟨he, hb⟩, rfl⟩]
  · simp [hb]
/-- The check: what binds an operation stands ahead of it; from operation m on each waits for all that stand ahead of it. -/
def chk (ops : Array Oper) (m : Nat) : Bool :=
  (List.range ops.size).all (fun i => (bdeps ops i).all (fun j => decide (j < i))) &&
  (List.range ops.size).all (fun k => decide (k < m) || (List.range k).all (fun i => (List.range (k + 1)).any (fun j => decide (i < j) && (bdeps ops j).contains i)))
theorem chk1 {ops : Array Oper} {m : Nat} (h : chk ops m = true) {i : Nat} (hi : i < ops.size) {j : Nat} (hj : j ∈ bdeps ops i) : j < i := by
  unfold chk at h
  simp only [Bool.and_eq_true, List.all_eq_true, List.mem_range] at h
  exact of_decide_eq_true (h.1 i hi j hj)
theorem chk2 {ops : Array Oper} {m : Nat} (h : chk ops m = true) {k : Nat} (hk : k < ops.size) (hm : m ≤ k) {i : Nat} (hi : i < k) : ∃ j, i < j ∧ j ≤ k ∧ i ∈ bdeps ops j := by
  unfold chk at h
  simp only [Bool.and_eq_true, List.all_eq_true, List.mem_range, Bool.or_eq_true, decide_eq_true_eq, List.any_eq_true, List.contains_iff_mem] at h
  rcases h.2 k hk with h1 | h1
  · omega
  · obtain ⟨j, h2, h3, h4⟩ := h1 i hi
    exact ⟨j, h3, by omega, h4⟩
/-- Set laws of what has come up. -/
theorem got_set {listed : Array Bool} {i j : Nat} (hi : i < listed.size) : (listed.setIfInBounds i true).getD j false = if i = j then true else listed.getD j false := by
  simp only [Array.getD_eq_getD_getElem?, Array.getElem?_setIfInBounds]
  split
  · rename_i e; subst e; simp
  · rfl
def Down (ops : Array Oper) (listed : Array Bool) : Prop := ∀ i, listed.getD i false = true → ∀ j ∈ bdeps ops i, listed.getD j false = true
theorem Down.all {ops : Array Oper} {listed : Array Bool} {m k : Nat} (h : Down ops listed) (hc : chk ops m = true) (hk : k < ops.size) (hm : m ≤ k) (hr : ∀ j ∈ bdeps ops k, listed.getD j false = true) : ∀ i < k, listed.getD i false = true := by
  have : ∀ d i, i < k → k - i ≤ d → listed.getD i false = true := by
    intro d
    induction d with
    | zero => intro i h1 h2; omega
    | succ d ih =>
      intro i h1 h2
      obtain ⟨j, g1, g2, g3⟩ := chk2 hc hk hm h1
      by_cases e : j = k
      · subst e; exact hr i g3
      · exact h j (ih j (by omega) (by omega)) i g3
  exact fun i hi => this (k - i) i hi (Nat.le_refl _)
theorem ready_nil {ops : Array Oper} {listed : Array Bool} {m : Nat} (hs : listed.size = ops.size) (hc : chk ops m = true) (h : Region.ready .any ops listed = []) : ∀ i < ops.size, listed.getD i false = true := by
  intro i
  induction i using Nat.strongRecOn with
  | _ i ih =>
    intro hi
    by_cases hl : listed.getD i true = false
    · have := deps_ready hi hl (fun j hj => ih j (chk1 hc hi hj) (Nat.lt_trans (chk1 hc hi hj) hi))
      rw [h] at this
      simp at this
    · have hl' : i < listed.size := by omega
      simp only [Array.getD, hl', dite_true] at hl ⊢
      simpa using hl
/-- The frame with the values laid in. -/
def lay (a : Act) (L : List (Nat × Value)) : Act := L.foldl (fun a x => a.put (some x.1) x.2) a
theorem vget_put (a : Act) (d n : Nat) (v : Value) : (a.put (some d) v).tmps[n]? = if d = n then (if d < a.tmps.size then some v else none) else a.tmps[n]? := by
  simp only [Act.put, Array.getElem?_setIfInBounds]
theorem vsize_put (a : Act) (d : Option Nat) (v : Value) : (a.put d v).tmps.size = a.tmps.size := by
  cases d <;> simp [Act.put]
theorem vdefers_put (a : Act) (d : Option Nat) (v : Value) : (a.put d v).defers = a.defers := by
  cases d <;> rfl
theorem lay_size (L : List (Nat × Value)) : ∀ a, (lay a L).tmps.size = a.tmps.size := by
  induction L with
  | nil => intro a; rfl
  | cons x L ih => intro a; exact (ih _).trans (vsize_put _ _ _)
theorem lay_defers (L : List (Nat × Value)) : ∀ a, (lay a L).defers = a.defers := by
  induction L with
  | nil => intro a; rfl
  | cons x L ih => intro a; exact (ih _).trans (vdefers_put _ _ _)
theorem lay_other (L : List (Nat × Value)) : ∀ a t, t ∉ L.map Prod.fst → (lay a L).tmps[t]? = a.tmps[t]? := by
  induction L with
  | nil => intro a t _; rfl
  | cons x L ih =>
    intro a t ht
    simp only [List.map_cons, List.mem_cons, not_or] at ht
    refine (ih _ t ht.2).trans ?_
    rw [vget_put, if_neg (Ne.symm ht.1)]
theorem lay_at (L : List (Nat × Value)) : ∀ a, (L.map Prod.fst).Nodup → (∀ x ∈ L, x.1 < a.tmps.size) → ∀ x ∈ L, (lay a L).tmps[x.1]? = some x.2 := by
  induction L with
  | nil => intro a _ _ x hx; simp at hx
  | cons y L ih =>
    intro a hn hs x hx
    simp only [List.map_cons, List.nodup_cons] at hn
    rcases List.mem_cons.1 hx with rfl | hx
    · refine (lay_other L _ _ hn.1).trans ?_
      rw [vget_put, if_pos rfl, if_pos (hs x (by simp))]
    · exact ih _ hn.2 (fun z hz => by rw [vsize_put]; exact hs z (by simp [hz])) x hx
theorem act_ext {x y : Act} (h1 : ∀ t : Nat, x.tmps[t]? = y.tmps[t]?) (h2 : x.defers = y.defers) : x = y := by
  obtain ⟨t, d⟩ := x
  obtain ⟨t', d'⟩ := y
  simp only at h1 h2
  rw [h2, Array.ext_getElem? h1]
structure VI (ops : Array Oper) (m : Nat) (L : List (Nat × Value)) (J : World → Prop) (a0 : Act) (listed : Array Bool) (a : Act) (w : World) : Prop where
  no : ∀ i, m ≤ i → listed.getD i false = false
  jw : J w
  df : a.defers = a0.defers
  sz : a.tmps.size = a0.tmps.size
  ot : ∀ t, t ∉ L.map Prod.fst → a.tmps[t]? = a0.tmps[t]?
  vl : ∀ i x, L[i]? = some x → listed.getD i false = true → a.tmps[x.1]? = some x.2
theorem wp_region_vals {P : Program} {ops : Array Oper} {Q : Exit → Act → World → Prop} {id : Nat} {a0 : Act} {w : World} (hm : P.follows .mixedOrders = true) (m : Nat) (L : List (Nat × Value)) (hL : L.length = m) (hmn : m ≤ ops.size)
    (hc : chk ops m = true) (hnd : (L.map Prod.fst).Nodup) (hsz : ∀ x ∈ L, x.1 < a0.tmps.size) (J : World → Prop) (h0 : J w.drew)
    (hstep : ∀ i x, L[i]? = some x → ∀ a w, J w → (∀ t, t ∉ L.map Prod.fst → a.tmps[t]? = a0.tmps[t]?) → (∀ j ∈ bdeps ops i, ∀ y, L[j]? = some y → a.tmps[y.1]? = some y.2) → wpOp P ops Q i (fun a' w' => a' = a.put (some x.1) x.2 ∧ J w') a w)
    (htail : ∀ w, J w → wpOps P ops Q (List.range' m (ops.size - m)) (lay a0 L) w) : (Code.region id ops true).wp P Q a0 w := by
  have hfull : ∀ listed a w, VI ops m L J a0 listed a w → (∀ i < m, listed.getD i false = true) → a = lay a0 L := by
    intro listed a w h hall
    refine act_ext (fun t => ?_) (by rw [h.df, lay_defers])
    by_cases ht : t ∈ L.map Prod.fst
    · obtain ⟨x, hx, rfl⟩ := List.mem_map.1 ht
      obtain ⟨i, hi, rfl⟩ := List.mem_iff_getElem.1 hx
      rw [lay_at L a0 hnd hsz _ hx]
      exact h.vl i L[i] (by simp [hi]) (hall i (by omega))
    · rw [lay_other L a0 t ht]
      exact h.ot t ht
  refine wp_region_any hm (wpAny_inv (fun listed a w => Down ops listed ∧ (VI ops m L J a0 listed a w ∨ ∃ k, m < k ∧ k ≤ ops.size ∧ (∀ i, listed.getD i false = decide (i < k)) ∧ wpOps P ops Q (List.range' k (ops.size - k)) a w)) ?_ ?_ _ _ _ _ (by simp) (by simp [todo]) ⟨?_, Or.inl ⟨?_, h0, rfl, rfl, fun _ _ => rfl, ?_⟩⟩)
  · rintro listed a w hs ⟨hd, hI⟩ i hi
    obtain ⟨g1, g2⟩ := ready_mem hi
    have g3 := ready_deps hi
    have g4 : listed.getD i false = false := by
      have hl' : i < listed.size := by omega
      simp only [Array.getD, hl', dite_true] at g2 ⊢
      exact g2
    have hd' : Down ops (listed.setIfInBounds i true) := by
      intro x hx j hj
      rw [got_set (by omega)] at hx ⊢
      split
      · rfl
      · split at hx
        · rename_i e; subst e; exact g3 j hj
        · exact hd x hx j hj
    rcases hI with hI | ⟨k, k1, k2, k3, k4⟩
    · by_cases him : i < m
      · obtain ⟨x, hx⟩ : ∃ x, L[i]? = some x := ⟨L[i], by simp [hL, him]⟩
        refine wpOp_mono ?_ (hstep i x hx a w hI.jw hI.ot (fun j hj y hy => hI.vl j y hy (g3 j hj)))
        rintro a' w' ⟨rfl, hj'⟩
        refine ⟨hd', Or.inl ⟨?_, hj', by rw [vdefers_put]; exact hI.df, by rw [vsize_put]; exact hI.sz, ?_, ?_⟩⟩
        · intro j hj
          rw [got_set (by omega), if_neg (by omega)]
          exact hI.no j hj
        · intro t ht
          rw [vget_put, if_neg]
          · exact hI.ot t ht
          · rintro rfl
            exact ht (List.mem_map.2 ⟨x, List.mem_of_getElem? hx, rfl⟩)
        · intro j y hy hl
          rw [vget_put, hI.sz]
          by_cases e : i = j
          · subst e
            rw [hx] at hy
            obtain rfl := Option.some.inj hy
            rw [if_pos rfl, if_pos (hsz x (List.mem_of_getElem? hx))]
          · rw [if_neg]
            · rw [got_set (by omega), if_neg e] at hl
              exact hI.vl j y hy hl
            · intro e2
              obtain ⟨hi1, hi2⟩ := List.getElem?_eq_some_iff.1 hx
              obtain ⟨hj1, hj2⟩ := List.getElem?_eq_some_iff.1 hy
              have := (List.getElem_inj (xs := L.map Prod.fst) (i := i) (j := j) (h₀ := by simpa using hi1) (h₁ := by simpa using hj1) hnd).1 (by simp [hi2, hj2, e2])
              exact e this
      · have hall := hd.all hc g1 (by omega) g3
        have him' : i = m := by
          by_cases e : i = m
          · exact e
          · have := hall m (by omega)
            rw [hI.no m (Nat.le_refl _)] at this
            simp at this
        subst him'
        have ha := hfull listed a w hI hall
        subst ha
        have ht := htail w hI.jw
        have e1 : ops.size - i = (ops.size - (i + 1)) + 1 := by omega
        rw [e1, List.range'_succ, wpOps_cons] at ht
        refine wpOp_mono ?_ ht
        intro a' w' h'
        refine ⟨hd', Or.inr ⟨i + 1, by omega, by omega, ?_, h'⟩⟩
        intro j
        rw [got_set (by omega)]
        by_cases e : i = j
        · subst e; simp
        · rw [if_neg e]
          by_cases e3 : j < i
          · rw [hall j e3]; simp; omega
          · rw [hI.no j (by omega)]; simp; omega
    · have hik : i = k := by
        have hall := hd.all hc g1 (by have := k3 i; rw [g4] at this; simp at this; omega) g3
        have h1 := k3 i
        rw [g4] at h1
        simp at h1
        by_cases e : i = k
        · exact e
        · have := hall k (by omega)
          rw [k3 k] at this
          simp at this
      subst hik
      have e1 : ops.size - i = (ops.size - (i + 1)) + 1 := by omega
      rw [e1, List.range'_succ, wpOps_cons] at k4
      refine wpOp_mono ?_ k4
      intro a' w' h'
      refine ⟨hd', Or.inr ⟨i + 1, by omega, by omega, ?_, h'⟩⟩
      intro j
      rw [got_set (by omega), k3 j]
      by_cases e : i = j
      · subst e; simp
      · rw [if_neg e]
        by_cases e3 : j < i
        · simp [e3]; omega
        · simp [e3]; omega
  · rintro listed a w hs ⟨hd, hI⟩ hr
    have hall := ready_nil hs hc hr
    rcases hI with hI | ⟨k, k1, k2, k3, k4⟩
    · have e : m = ops.size := by
        by_cases e : m = ops.size
        · exact e
        · have := hall m (by omega)
          rw [hI.no m (Nat.le_refl _)] at this
          simp at this
      have ha := hfull listed a w hI (fun i hi => hall i (by omega))
      have ht := htail w hI.jw
      rw [e, Nat.sub_self] at ht
      rw [ha]
      exact ht
    · have e : k = ops.size := by
        by_cases e : k = ops.size
        · exact e
        · have := hall k (by omega)
          rw [k3 k] at this
          simp at this
      rw [e, Nat.sub_self] at k4
      exact k4
  · intro i hi
    simp [Array.getD_eq_getD_getElem?, Array.getElem?_replicate] at hi
    split at hi <;> simp at hi
  · intro i hi
    simp [Array.getD_eq_getD_getElem?, Array.getElem?_replicate]
    split <;> rfl
  · intro i x hx hl
    simp [Array.getD_eq_getD_getElem?, Array.getElem?_replicate] at hl
    split at hl <;> simp at hl
end Go.Qm
