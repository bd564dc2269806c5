/- Regions that draw their order: wp_region_mx, and what it leans on. -/
import Derived.Test.Qxb6500771aGreatMem
import Derived.Orders
namespace Go.Qv
open Go Go.RowKit Go.Qm

/-- How many operations are still to come. -/
def todo (listed : Array Bool) : Nat := (listed.toList.filter (fun b => !b)).length
theorem todo_set {listed : Array Bool} {i : Nat} (hi : i < listed.size) (hf : listed.getD i true = false) : todo (listed.setIfInBounds i true) + 1 = todo listed := by
  have hl : i < listed.toList.length := by simpa using hi
  have hg : listed.toList[i] = false := by
    have : listed.getD i true = listed[i] := by simp [Array.getD, hi]
    rw [this] at hf
    simpa using hf
  have e : listed.toList = listed.toList.take i ++ false :: listed.toList.drop (i + 1) := by
    rw [← hg, ← List.drop_eq_getElem_cons hl, List.take_append_drop]
  unfold todo
  rw [Array.toList_setIfInBounds, List.set_eq_take_append_cons_drop, if_pos hl]
  conv => rhs; rw [e]
  simp [List.filter_append]
  omega
theorem ready_mem {md : Region.Mode} {ops : Array Oper} {listed : Array Bool} {i : Nat} (h : i ∈ Region.ready md ops listed) : i < ops.size ∧ listed.getD i true = false := by
  unfold Region.ready at h
  simp only [List.mem_filter, List.mem_range, Bool.and_eq_true, Bool.not_eq_true'] at h
  exact ⟨h.1, h.2.1⟩
theorem wpAny_inv {P : Program} {md : Region.Mode} {ops : Array Oper} {Q : Exit → Act → World → Prop} (I : Array Bool → Act → World → Prop)
    (hstep : ∀ listed a w, listed.size = ops.size → I listed a w → ∀ i, i ∈ Region.ready md ops listed → wpOp P ops Q i (fun a' w' => I (listed.setIfInBounds i true) a' w') a w)
    (hend : ∀ listed a w, listed.size = ops.size → I listed a w → Region.ready md ops listed = [] → Q .normal a w) :
    ∀ (fuel : Nat) (listed : Array Bool) (a : Act) (w : World), listed.size = ops.size → todo listed ≤ fuel → I listed a w → wpAny P md ops Q fuel listed a w
  | 0, listed, a, w, hs, ht, hI => by
    have hr : Region.ready md ops listed = [] := by
      apply List.eq_nil_iff_forall_not_mem.2
      intro i hi
      obtain ⟨h1, h2⟩ := ready_mem hi
      have := todo_set (i := i) (by omega) h2
      omega
    exact ⟨hr, hend listed a w hs hI hr⟩
  | fuel + 1, listed, a, w, hs, ht, hI =>
    ⟨fun hr => hend listed a w hs hI hr, fun i hi => wpOp_mono (fun a' w' h' => wpAny_inv I hstep hend fuel _ a' w' (by simpa using hs) (by
      obtain ⟨h1, h2⟩ := ready_mem hi
      have := todo_set (i := i) (by omega) h2
      omega) h') (hstep listed a w hs hI i hi)⟩
/-- What binds operation i. -/
def bdeps (ops : Array Oper) (i : Nat) : List Nat :=
  match ops[i]? with
  | none => []
  | some o => (o.after.toList.filter (Region.binds .any)).map (·.on)
theorem ready_deps {ops : Array Oper} {listed : Array Bool} {i : Nat} (h : i ∈ Region.ready .any ops listed) : ∀ j ∈ bdeps ops i, listed.getD j false = true := by
  have h1 := (ready_mem h).1
  unfold Region.ready at h
  simp only [List.mem_filter, List.mem_range, Bool.and_eq_true, Bool.not_eq_true'] at h
  have h3 := h.2.2
  have ho : ops[i]? = some ops[i] := by simp [h1]
  unfold bdeps
  rw [ho] at h3 ⊢
  simp only [Option.map_some, Option.getD_some, ← Array.all_toList, List.all_eq_true] at h3
  intro j hj
  simp only [List.mem_map, List.mem_filter] at hj
  obtain ⟨e, ⟨he, hb⟩, rfl⟩ := hj
  have := h3 e he
  simpa [hb] using this
theorem deps_ready {ops : Array Oper} {listed : Array Bool} {i : Nat} (hi : i < ops.size) (hl : listed.getD i true = false) (h : ∀ j ∈ bdeps ops i, listed.getD j false = true) : i ∈ Region.ready .any ops listed := by
  have ho : ops[i]? = some ops[i] := by simp [hi]
  unfold bdeps at h
  rw [ho] at h
  simp only [List.mem_map, List.mem_filter] at h
  unfold Region.ready
  simp only [List.mem_filter, List.mem_range, Bool.and_eq_true, Bool.not_eq_true']
  refine ⟨hi, hl, ?_⟩
  rw [ho]
  simp only [Option.map_some, Option.getD_some, ← Array.all_toList, List.all_eq_true]
  intro e he
  by_cases hb : Region.binds .any e = true
  · simp [hb, h e.on ⟨e, ⟨he, hb⟩, rfl⟩]
  · simp [hb]
/-- The check: what binds an operation stands ahead of it; from operation m on each waits for all that stand ahead of it. -/
def chk (ops : Array Oper) (m : Nat) : Bool :=
  (List.range ops.size).all (fun i => (bdeps ops i).all (fun j => decide (j < i))) &&
  (List.range ops.size).all (fun k => decide (k < m) || (List.range k).all (fun i => (List.range (k + 1)).any (fun j => decide (i < j) && (bdeps ops j).contains i)))
theorem chk1 {ops : Array Oper} {m : Nat} (h : chk ops m = true) {i : Nat} (hi : i < ops.size) {j : Nat} (hj : j ∈ bdeps ops i) : j < i := by
  unfold chk at h
  simp only [Bool.and_eq_true, List.all_eq_true, List.mem_range] at h
  exact of_decide_eq_true (h.1 i hi j hj)
theorem chk2 {ops : Array Oper} {m : Nat} (h : chk ops m = true) {k : Nat} (hk : k < ops.size) (hm : m ≤ k) {i : Nat} (hi : i < k) : ∃ j, i < j ∧ j ≤ k ∧ i ∈ bdeps ops j := by
  unfold chk at h
  simp only [Bool.and_eq_true, List.all_eq_true, List.mem_range, Bool.or_eq_true, decide_eq_true_eq, List.any_eq_true, List.contains_iff_mem] at h
  rcases h.2 k hk with h1 | h1
  · omega
  · obtain ⟨j, h2, h3, h4⟩ := h1 i hi
    exact ⟨j, h3, by omega, h4⟩
/-- Set laws of what has come up. -/
theorem got_set {listed : Array Bool} {i j : Nat} (hi : i < listed.size) : (listed.setIfInBounds i true).getD j false = if i = j then true else listed.getD j false := by
  simp only [Array.getD_eq_getD_getElem?, Array.getElem?_setIfInBounds]
  split
  · rename_i e; subst e; simp
  · rfl
def Down (ops : Array Oper) (listed : Array Bool) : Prop := ∀ i, listed.getD i false = true → ∀ j ∈ bdeps ops i, listed.getD j false = true
theorem Down.all {ops : Array Oper} {listed : Array Bool} {m k : Nat} (h : Down ops listed) (hc : chk ops m = true) (hk : k < ops.size) (hm : m ≤ k) (hr : ∀ j ∈ bdeps ops k, listed.getD j false = true) : ∀ i < k, listed.getD i false = true := by
  have : ∀ d i, i < k → k - i ≤ d → listed.getD i false = true := by
    intro d
    induction d with
    | zero => intro i h1 h2; omega
    | succ d ih =>
      intro i h1 h2
      obtain ⟨j, g1, g2, g3⟩ := chk2 hc hk hm h1
      by_cases e : j = k
      · subst e; exact hr i g3
      · exact h j (ih j (by omega) (by omega)) i g3
  exact fun i hi => this (k - i) i hi (Nat.le_refl _)
theorem ready_nil {ops : Array Oper} {listed : Array Bool} {m : Nat} (hs : listed.size = ops.size) (hc : chk ops m = true) (h : Region.ready .any ops listed = []) : ∀ i < ops.size, listed.getD i false = true := by
  intro i
  induction i using Nat.strongRecOn with
  | _ i ih =>
    intro hi
    by_cases hl : listed.getD i true = false
    · have := deps_ready hi hl (fun j hj => ih j (chk1 hc hi hj) (Nat.lt_trans (chk1 hc hi hj) hi))
      rw [h] at this
      simp at this
    · have hl' : i < listed.size := by omega
      simp only [Array.getD, hl', dite_true] at hl ⊢
      simpa using hl
/-- The frame with the values laid in. -/
def lay (a : Act) (L : List (Nat × Value)) : Act := L.foldl (fun a x => a.put (some x.1) x.2) a
theorem vget_put (a : Act) (d n : Nat) (v : Value) : (a.put (some d) v).tmps[n]? = if d = n then (if d < a.tmps.size then some v else none) else a.tmps[n]? := by
  simp only [Act.put, Array.getElem?_setIfInBounds]
theorem vsize_put (a : Act) (d : Option Nat) (v : Value) : (a.put d v).tmps.size = a.tmps.size := by
  cases d <;> simp [Act.put]
theorem vdefers_put (a : Act) (d : Option Nat) (v : Value) : (a.put d v).defers = a.defers := by
  cases d <;> rfl
theorem lay_size (L : List (Nat × Value)) : ∀ a, (lay a L).tmps.size = a.tmps.size := by
  induction L with
  | nil => intro a; rfl
  | cons x L ih => intro a; exact (ih _).trans (vsize_put _ _ _)
theorem lay_defers (L : List (Nat × Value)) : ∀ a, (lay a L).defers = a.defers := by
  induction L with
  | nil => intro a; rfl
  | cons x L ih => intro a; exact (ih _).trans (vdefers_put _ _ _)
theorem lay_other (L : List (Nat × Value)) : ∀ a t, t ∉ L.map Prod.fst → (lay a L).tmps[t]? = a.tmps[t]? := by
  induction L with
  | nil => intro a t _; rfl
  | cons x L ih =>
    intro a t ht
    simp only [List.map_cons, List.mem_cons, not_or] at ht
    refine (ih _ t ht.2).trans ?_
    rw [vget_put, if_neg (Ne.symm ht.1)]
theorem lay_at (L : List (Nat × Value)) : ∀ a, (L.map Prod.fst).Nodup → (∀ x ∈ L, x.1 < a.tmps.size) → ∀ x ∈ L, (lay a L).tmps[x.1]? = some x.2 := by
  induction L with
  | nil => intro a _ _ x hx; simp at hx
  | cons y L ih =>
    intro a hn hs x hx
    simp only [List.map_cons, List.nodup_cons] at hn
    rcases List.mem_cons.1 hx with rfl | hx
    · refine (lay_other L _ _ hn.1).trans ?_
      rw [vget_put, if_pos rfl, if_pos (hs x (by simp))]
    · exact ih _ hn.2 (fun z hz => by rw [vsize_put]; exact hs z (by simp [hz])) x hx
theorem act_ext {x y : Act} (h1 : ∀ t : Nat, x.tmps[t]? = y.tmps[t]?) (h2 : x.defers = y.defers) : x = y := by
  obtain ⟨t, d⟩ := x
  obtain ⟨t', d'⟩ := y
  simp only at h1 h2
  rw [h2, Array.ext_getElem? h1]
structure VI (ops : Array Oper) (m : Nat) (L : List (Nat × Value)) (J : World → Prop) (a0 : Act) (listed : Array Bool) (a : Act) (w : World) : Prop where
  no : ∀ i, m ≤ i → listed.getD i false = false
  jw : J w
  df : a.defers = a0.defers
  sz : a.tmps.size = a0.tmps.size
  ot : ∀ t, t ∉ L.map Prod.fst → a.tmps[t]? = a0.tmps[t]?
  vl : ∀ i x, L[i]? = some x → listed.getD i false = true → a.tmps[x.1]? = some x.2
theorem wp_region_vals {P : Program} {ops : Array Oper} {Q : Exit → Act → World → Prop} {id : Nat} {a0 : Act} {w : World} (hm : P.follows .mixedOrders = true) (m : Nat) (L : List (Nat × Value)) (hL : L.length = m) (hmn : m ≤ ops.size)
    (hc : chk ops m = true) (hnd : (L.map Prod.fst).Nodup) (hsz : ∀ x ∈ L, x.1 < a0.tmps.size) (J : World → Prop) (h0 : J w.drew)
    (hstep : ∀ i x, L[i]? = some x → ∀ a w, J w → (∀ t, t ∉ L.map Prod.fst → a.tmps[t]? = a0.tmps[t]?) → (∀ j ∈ bdeps ops i, ∀ y, L[j]? = some y → a.tmps[y.1]? = some y.2) → wpOp P ops Q i (fun a' w' => a' = a.put (some x.1) x.2 ∧ J w') a w)
    (htail : ∀ w, J w → wpOps P ops Q (List.range' m (ops.size - m)) (lay a0 L) w) : (Code.region id ops true).wp P Q a0 w := by
  have hfull : ∀ listed a w, VI ops m L J a0 listed a w → (∀ i < m, listed.getD i false = true) → a = lay a0 L := by
    intro listed a w h hall
    refine act_ext (fun t => ?_) (by rw [h.df, lay_defers])
    by_cases ht : t ∈ L.map Prod.fst
    · obtain ⟨x, hx, rfl⟩ := List.mem_map.1 ht
      obtain ⟨i, hi, rfl⟩ := List.mem_iff_getElem.1 hx
      rw [lay_at L a0 hnd hsz _ hx]
      exact h.vl i L[i] (by simp [hi]) (hall i (by omega))
    · rw [lay_other L a0 t ht]
      exact h.ot t ht
  refine wp_region_any hm (wpAny_inv (fun listed a w => Down ops listed ∧ (VI ops m L J a0 listed a w ∨ ∃ k, m < k ∧ k ≤ ops.size ∧ (∀ i, listed.getD i false = decide (i < k)) ∧ wpOps P ops Q (List.range' k (ops.size - k)) a w)) ?_ ?_ _ _ _ _ (by simp) (by simp [todo]) ⟨?_, Or.inl ⟨?_, h0, rfl, rfl, fun _ _ => rfl, ?_⟩⟩)
  · rintro listed a w hs ⟨hd, hI⟩ i hi
    obtain ⟨g1, g2⟩ := ready_mem hi
    have g3 := ready_deps hi
    have g4 : listed.getD i false = false := by
      have hl' : i < listed.size := by omega
      simp only [Array.getD, hl', dite_true] at g2 ⊢
      exact g2
    have hd' : Down ops (listed.setIfInBounds i true) := by
      intro x hx j hj
      rw [got_set (by omega)] at hx ⊢
      split
      · rfl
      · split at hx
        · rename_i e; subst e; exact g3 j hj
        · exact hd x hx j hj
    rcases hI with hI | ⟨k, k1, k2, k3, k4⟩
    · by_cases him : i < m
      · obtain ⟨x, hx⟩ : ∃ x, L[i]? = some x := ⟨L[i], by simp [hL, him]⟩
        refine wpOp_mono ?_ (hstep i x hx a w hI.jw hI.ot (fun j hj y hy => hI.vl j y hy (g3 j hj)))
        rintro a' w' ⟨rfl, hj'⟩
        refine ⟨hd', Or.inl ⟨?_, hj', by rw [vdefers_put]; exact hI.df, by rw [vsize_put]; exact hI.sz, ?_, ?_⟩⟩
        · intro j hj
          rw [got_set (by omega), if_neg (by omega)]
          exact hI.no j hj
        · intro t ht
          rw [vget_put, if_neg]
          · exact hI.ot t ht
          · rintro rfl
            exact ht (List.mem_map.2 ⟨x, List.mem_of_getElem? hx, rfl⟩)
        · intro j y hy hl
          rw [vget_put, hI.sz]
          by_cases e : i = j
          · subst e
            rw [hx] at hy
            obtain rfl := Option.some.inj hy
            rw [if_pos rfl, if_pos (hsz x (List.mem_of_getElem? hx))]
          · rw [if_neg]
            · rw [got_set (by omega), if_neg e] at hl
              exact hI.vl j y hy hl
            · intro e2
              obtain ⟨hi1, hi2⟩ := List.getElem?_eq_some_iff.1 hx
              obtain ⟨hj1, hj2⟩ := List.getElem?_eq_some_iff.1 hy
              have := (List.getElem_inj (xs := L.map Prod.fst) (i := i) (j := j) (h₀ := by simpa using hi1) (h₁ := by simpa using hj1) hnd).1 (by simp [hi2, hj2, e2])
              exact e this
      · have hall := hd.all hc g1 (by omega) g3
        have him' : i = m := by
          by_cases e : i = m
          · exact e
          · have := hall m (by omega)
            rw [hI.no m (Nat.le_refl _)] at this
            simp at this
        subst him'
        have ha := hfull listed a w hI hall
        subst ha
        have ht := htail w hI.jw
        have e1 : ops.size - i = (ops.size - (i + 1)) + 1 := by omega
        rw [e1, List.range'_succ, wpOps_cons] at ht
        refine wpOp_mono ?_ ht
        intro a' w' h'
        refine ⟨hd', Or.inr ⟨i + 1, by omega, by omega, ?_, h'⟩⟩
        intro j
        rw [got_set (by omega)]
        by_cases e : i = j
        · subst e; simp
        · rw [if_neg e]
          by_cases e3 : j < i
          · rw [hall j e3]; simp; omega
          · rw [hI.no j (by omega)]; simp; omega
    · have hik : i = k := by
        have hall := hd.all hc g1 (by have := k3 i; rw [g4] at this; simp at this; omega) g3
        have h1 := k3 i
        rw [g4] at h1
        simp at h1
        by_cases e : i = k
        · exact e
        · have := hall k (by omega)
          rw [k3 k] at this
          simp at this
      subst hik
      have e1 : ops.size - i = (ops.size - (i + 1)) + 1 := by omega
      rw [e1, List.range'_succ, wpOps_cons] at k4
      refine wpOp_mono ?_ k4
      intro a' w' h'
      refine ⟨hd', Or.inr ⟨i + 1, by omega, by omega, ?_, h'⟩⟩
      intro j
      rw [got_set (by omega), k3 j]
      by_cases e : i = j
      · subst e; simp
      · rw [if_neg e]
        by_cases e3 : j < i
        · simp [e3]; omega
        · simp [e3]; omega
  · rintro listed a w hs ⟨hd, hI⟩ hr
    have hall := ready_nil hs hc hr
    rcases hI with hI | ⟨k, k1, k2, k3, k4⟩
    · have e : m = ops.size := by
        by_cases e : m = ops.size
        · exact e
        · have := hall m (by omega)
          rw [hI.no m (Nat.le_refl _)] at this
          simp at this
      have ha := hfull listed a w hI (fun i hi => hall i (by omega))
      have ht := htail w hI.jw
      rw [e, Nat.sub_self] at ht
      rw [ha]
      exact ht
    · have e : k = ops.size := by
        by_cases e : k = ops.size
        · exact e
        · have := hall k (by omega)
          rw [k3 k] at this
          simp at this
      rw [e, Nat.sub_self] at k4
      exact k4
  · intro i hi
    simp [Array.getD_eq_getD_getElem?, Array.getElem?_replicate] at hi
    split at hi <;> simp at hi
  · intro i hi
    simp [Array.getD_eq_getD_getElem?, Array.getElem?_replicate]
    split <;> rfl
  · intro i x hx hl
    simp [Array.getD_eq_getD_getElem?, Array.getElem?_replicate] at hl
    split at hl <;> simp at hl

set_option linter.unusedSimpArgs false
set_option linter.unusedVariables false
structure VG {α : Type} (ops : Array Oper) (m : Nat) (sl : List Nat) (L : α → List (Nat × Value)) (C : Array Bool → α → World → Prop) (a0 : Act) (listed : Array Bool) (a : Act) (w : World) (p : α) : Prop where
  no : ∀ i, m ≤ i → listed.getD i false = false
  cw : C listed p w
  df : a.defers = a0.defers
  sz : a.tmps.size = a0.tmps.size
  ot : ∀ t, t ∉ sl → a.tmps[t]? = a0.tmps[t]?
  vl : ∀ i x, (L p)[i]? = some x → listed.getD i false = true → a.tmps[x.1]? = some x.2
theorem wp_region_gh {P : Program} {ops : Array Oper} {Q : Exit → Act → World → Prop} {id : Nat} {a0 : Act} {w : World} (hm : P.follows .mixedOrders = true) {α : Type} (m : Nat) (sl : List Nat) (L : α → List (Nat × Value)) (hL : ∀ p, (L p).map Prod.fst = sl) (hsl : sl.length = m) (hmn : m ≤ ops.size)
    (hc : chk ops m = true) (hnd : sl.Nodup) (hsz : ∀ d ∈ sl, d < a0.tmps.size) (C : Array Bool → α → World → Prop) (h0 : ∃ p, C (Array.replicate ops.size false) p w.drew)
    (hstep : ∀ i d, sl[i]? = some d → ∀ listed p a w, listed.size = ops.size → Down ops listed → listed.getD i false = false → (∀ j ∈ bdeps ops i, listed.getD j false = true) → C listed p w → (∀ t, t ∉ sl → a.tmps[t]? = a0.tmps[t]?) → (∀ j x, (L p)[j]? = some x → listed.getD j false = true → a.tmps[x.1]? = some x.2) →
      wpOp P ops Q i (fun a' w' => ∃ p' x, (L p')[i]? = some x ∧ a' = a.put (some x.1) x.2 ∧ C (listed.setIfInBounds i true) p' w' ∧ ∀ j, listed.getD j false = true → (L p')[j]? = (L p)[j]?) a w)
    (htail : ∀ listed p w, (∀ i < m, listed.getD i false = true) → C listed p w → wpOps P ops Q (List.range' m (ops.size - m)) (lay a0 (L p)) w) : (Code.region id ops true).wp P Q a0 w := by
  have hfull : ∀ listed a w p, VG ops m sl L C a0 listed a w p → (∀ i < m, listed.getD i false = true) → a = lay a0 (L p) := by
    intro listed a w p h hall
    refine act_ext (fun t => ?_) (by rw [h.df, lay_defers])
    by_cases ht : t ∈ sl
    · rw [← hL p] at ht
      obtain ⟨x, hx, rfl⟩ := List.mem_map.1 ht
      obtain ⟨i, hi, hi2⟩ := List.mem_iff_getElem.1 hx
      rw [lay_at (L p) a0 (by rw [hL p]; exact hnd) (fun y hy => hsz _ (by rw [← hL p]; exact List.mem_map_of_mem hy)) _ hx]
      have hlen : (L p).length = m := by rw [← hsl, ← hL p, List.length_map]
      exact h.vl i x (by rw [← hi2]; simp [hi]) (hall i (by omega))
    · rw [lay_other (L p) a0 t (by rw [hL p]; exact ht)]
      exact h.ot t ht
  obtain ⟨p0, hp0⟩ := h0
  refine wp_region_any hm (wpAny_inv (fun listed a w => Down ops listed ∧ ((∃ p, VG ops m sl L C a0 listed a w p) ∨ ∃ k, m < k ∧ k ≤ ops.size ∧ (∀ i, listed.getD i false = decide (i < k)) ∧ wpOps P ops Q (List.range' k (ops.size - k)) a w)) ?_ ?_ _ _ _ _ (by simp) (by simp [todo]) ⟨?_, Or.inl ⟨p0, ?_, hp0, rfl, rfl, fun _ _ => rfl, ?_⟩⟩)
  · rintro listed a w hs ⟨hd, hI⟩ i hi
    obtain ⟨g1, g2⟩ := ready_mem hi
    have g3 := ready_deps hi
    have g4 : listed.getD i false = false := by
      have hl' : i < listed.size := by omega
      simp only [Array.getD, hl', dite_true] at g2 ⊢
      exact g2
    have hd' : Down ops (listed.setIfInBounds i true) := by
      intro x hx j hj
      rw [got_set (by omega)] at hx ⊢
      split
      · rfl
      · split at hx
        · rename_i e; subst e; exact g3 j hj
        · exact hd x hx j hj
    rcases hI with ⟨p, hI⟩ | ⟨k, k1, k2, k3, k4⟩
    · by_cases him : i < m
      · obtain ⟨d, hdd⟩ : ∃ d, sl[i]? = some d := ⟨sl[i], by simp [hsl, him]⟩
        refine wpOp_mono ?_ (hstep i d hdd listed p a w hs hd g4 g3 hI.cw hI.ot hI.vl)
        rintro a' w' ⟨p', x, hx, rfl, hc', hsame⟩
        have hx1 : x.1 = d := by
          have h9 : ((L p').map Prod.fst)[i]? = some x.1 := by rw [List.getElem?_map, hx]; rfl
          rw [hL p', hdd] at h9
          exact (Option.some.inj h9).symm
        refine ⟨hd', Or.inl ⟨p', ?_, hc', by rw [vdefers_put]; exact hI.df, by rw [vsize_put]; exact hI.sz, ?_, ?_⟩⟩
        · intro j hj
          rw [got_set (by omega), if_neg (by omega)]
          exact hI.no j hj
        · intro t ht
          rw [vget_put, if_neg]
          · exact hI.ot t ht
          · rintro rfl
            rw [hx1] at ht
            exact ht (List.mem_of_getElem? hdd)
        · intro j y hy hl
          rw [vget_put, hI.sz]
          by_cases e : i = j
          · subst e
            rw [hx] at hy
            obtain rfl := Option.some.inj hy
            rw [if_pos rfl, if_pos (by rw [hx1]; exact hsz d (List.mem_of_getElem? hdd))]
          · rw [got_set (by omega), if_neg e] at hl
            rw [if_neg]
            · exact hI.vl j y (by rw [← hsame j hl]; exact hy) hl
            · intro e2
              have h8 : sl[j]? = some y.1 := by rw [← hL p', List.getElem?_map, hy]; rfl
              rw [hx1] at e2
              rw [← e2] at h8
              obtain ⟨hi1, hi2⟩ := List.getElem?_eq_some_iff.1 hdd
              obtain ⟨hj1, hj2⟩ := List.getElem?_eq_some_iff.1 h8
              exact e ((List.getElem_inj (h₀ := hi1) (h₁ := hj1) hnd).1 (by rw [hi2, hj2]))
      · have hall := hd.all hc g1 (by omega) g3
        have him' : i = m := by
          by_cases e : i = m
          · exact e
          · have := hall m (by omega)
            rw [hI.no m (Nat.le_refl _)] at this
            simp at this
        subst him'
        have ha := hfull listed a w p hI hall
        subst ha
        have ht := htail listed p w hall hI.cw
        have e1 : ops.size - i = (ops.size - (i + 1)) + 1 := by omega
        rw [e1, List.range'_succ, wpOps_cons] at ht
        refine wpOp_mono ?_ ht
        intro a' w' h'
        refine ⟨hd', Or.inr ⟨i + 1, by omega, by omega, ?_, h'⟩⟩
        intro j
        rw [got_set (by omega)]
        by_cases e : i = j
        · subst e; simp
        · rw [if_neg e]
          by_cases e3 : j < i
          · rw [hall j e3]; simp; omega
          · rw [hI.no j (by omega)]; simp; omega
    · have hik : i = k := by
        have hall := hd.all hc g1 (by have := k3 i; rw [g4] at this; simp at this; omega) g3
        have h1 := k3 i
        rw [g4] at h1
        simp at h1
        by_cases e : i = k
        · exact e
        · have := hall k (by omega)
          rw [k3 k] at this
          simp at this
      subst hik
      have e1 : ops.size - i = (ops.size - (i + 1)) + 1 := by omega
      rw [e1, List.range'_succ, wpOps_cons] at k4
      refine wpOp_mono ?_ k4
      intro a' w' h'
      refine ⟨hd', Or.inr ⟨i + 1, by omega, by omega, ?_, h'⟩⟩
      intro j
      rw [got_set (by omega), k3 j]
      by_cases e : i = j
      · subst e; simp
      · rw [if_neg e]
        by_cases e3 : j < i
        · simp [e3]; omega
        · simp [e3]; omega
  · rintro listed a w hs ⟨hd, hI⟩ hr
    have hall := ready_nil hs hc hr
    rcases hI with ⟨p, hI⟩ | ⟨k, k1, k2, k3, k4⟩
    · have e : m = ops.size := by
        by_cases e : m = ops.size
        · exact e
        · have := hall m (by omega)
          rw [hI.no m (Nat.le_refl _)] at this
          simp at this
      have ha := hfull listed a w p hI (fun i hi => hall i (by omega))
      have ht := htail listed p w (fun i hi => hall i (by omega)) hI.cw
      rw [e, Nat.sub_self] at ht
      rw [ha]
      exact ht
    · have e : k = ops.size := by
        by_cases e : k = ops.size
        · exact e
        · have := hall k (by omega)
          rw [k3 k] at this
          simp at this
      rw [e, Nat.sub_self] at k4
      exact k4
  · intro i hi
    simp [Array.getD_eq_getD_getElem?, Array.getElem?_replicate] at hi
    split at hi <;> simp at hi
  · intro i hi
    simp [Array.getD_eq_getD_getElem?, Array.getElem?_replicate]
    split <;> rfl
  · intro i x hx hl
    simp [Array.getD_eq_getD_getElem?, Array.getElem?_replicate] at hl
    split at hl <;> simp at hl

set_option linter.unusedSimpArgs false
set_option linter.unusedVariables false
def mval (vs : Nat → Option Value) : Value ⊕ Nat → Value
  | .inl c => c
  | .inr k => (vs k).getD undef
def ment (vs : Nat → Option Value) (x : Option Nat × (Value ⊕ Nat)) : Option (Nat × Value) := x.1.map fun d => (d, mval vs x.2)
def Lmx (T : List (Option Nat × (Value ⊕ Nat))) (vs : Nat → Option Value) : List (Nat × Value) := T.filterMap (ment vs)
def shp : Value ⊕ Nat → Option Nat
  | .inl _ => none
  | .inr k => some k
def upv (vs : Nat → Option Value) (k : Nat) (v : Value) : Nat → Option Value := fun j => if j = k then some v else vs j
theorem upv_same (vs : Nat → Option Value) (k : Nat) (v : Value) : upv vs k v k = some v := by simp [upv]
theorem upv_ne (vs : Nat → Option Value) {k j : Nat} (v : Value) (h : j ≠ k) : upv vs k v j = vs j := by simp [upv, h]
def reach (ops : Array Oper) : Nat → Nat → Nat → Bool
  | 0, _, _ => false
  | n + 1, i, j => (bdeps ops i).any fun x => x == j || reach ops n x j
theorem reach_listed {ops : Array Oper} {listed : Array Bool} (hd : Down ops listed) : ∀ n i j, (∀ x ∈ bdeps ops i, listed.getD x false = true) → reach ops n i j = true → listed.getD j false = true
  | 0, i, j, _, h => by simp [reach] at h
  | n + 1, i, j, hx, h => by
    rw [reach, List.any_eq_true] at h
    obtain ⟨x, hm, he⟩ := h
    rw [Bool.or_eq_true] at he
    rcases he with he | he
    · rw [← (by simpa using he : x = j)]; exact hx x hm
    · exact reach_listed hd n x j (fun y hy => hd x (hx x hm) y hy) he
/-- The check: K says which operations answer as they may; es lists them. -/
def listK (K : List (Option Nat)) (es : List Nat) : Bool :=
  (List.range K.length).all (fun i => match K[i]? with | some (some k) => es[k]? == some i | _ => true) &&
  (List.range es.length).all (fun k => K[es.getD k 0]? == some (some k))
theorem listK1 {K : List (Option Nat)} {es : List Nat} (h : listK K es = true) {i k : Nat} (hi : K[i]? = some (some k)) : es[k]? = some i := by
  unfold listK at h
  rw [Bool.and_eq_true] at h
  have h1 := List.all_eq_true.1 h.1 i (List.mem_range.2 (List.getElem?_eq_some_iff.1 hi).1)
  rw [hi] at h1
  simpa using h1
theorem listK2 {K : List (Option Nat)} {es : List Nat} (h : listK K es = true) {i k : Nat} (hi : es[k]? = some i) : K[i]? = some (some k) := by
  unfold listK at h
  rw [Bool.and_eq_true] at h
  have h1 := List.all_eq_true.1 h.2 k (List.mem_range.2 (List.getElem?_eq_some_iff.1 hi).1)
  rw [List.getD_eq_getElem?_getD, hi] at h1
  simpa using h1
def OutM (R : (Nat → Option Value) → World → Prop) (vs : Nat → Option Value) (d : Option Nat) (a : Act) (w : World) (a' : Act) (w' : World) : Value ⊕ Nat → Prop
  | .inl c => a' = a.put d c ∧ w' = w
  | .inr k => ∃ v, a' = a.put d v ∧ R (upv vs k v) w'
/-- What an operation i finds. -/
structure MX (ops : Array Oper) (T : List (Option Nat × (Value ⊕ Nat))) (sl es : List Nat) (R : (Nat → Option Value) → World → Prop) (a0 : Act) (i : Nat) (listed : Array Bool) (vs : Nat → Option Value) (a : Act) (w : World) : Prop where
  dn : Down ops listed
  no : listed.getD i false = false
  dp : ∀ j ∈ bdeps ops i, listed.getD j false = true
  es : ∀ k j, es[k]? = some j → (listed.getD j false = true ↔ (vs k).isSome = true)
  r : R vs w
  ot : ∀ t, t ∉ sl → a.tmps[t]? = a0.tmps[t]?
  vl : ∀ j d y, T[j]? = some (some d, y) → listed.getD j false = true → a.tmps[d]? = some (mval vs y)
section
variable {ops : Array Oper} {T : List (Option Nat × (Value ⊕ Nat))} {sl es : List Nat} {R : (Nat → Option Value) → World → Prop} {a0 : Act} {i : Nat} {listed : Array Bool} {vs : Nat → Option Value} {a : Act} {w : World}
theorem MX.has (h : MX ops T sl es R a0 i listed vs a w) (k j : Nat) (hk : es[k]? = some j) (n : Nat) (hr : reach ops n i j = true) : ∃ v, vs k = some v :=
  Option.isSome_iff_exists.1 ((h.es k j hk).1 (reach_listed h.dn n i j h.dp hr))
theorem MX.not (h : MX ops T sl es R a0 i listed vs a w) (k : Nat) (hk : es[k]? = some i) : vs k = none := by
  cases e : vs k with
  | none => rfl
  | some v =>
    have := (h.es k i hk).2 (by rw [e]; rfl)
    rw [h.no] at this
    cases this
theorem MX.later (h : MX ops T sl es R a0 i listed vs a w) (k j : Nat) (hk : es[k]? = some j) (n : Nat) (hr : reach ops n j i = true) : vs k = none := by
  cases e : vs k with
  | none => rfl
  | some v =>
    have h1 := (h.es k j hk).2 (by rw [e]; rfl)
    have := reach_listed h.dn n j i (fun x hx => h.dn j h1 x hx) hr
    rw [h.no] at this
    cases this
theorem MX.val (h : MX ops T sl es R a0 i listed vs a w) (j d : Nat) (y : Value ⊕ Nat) (hT : T[j]? = some (some d, y)) (hj : j ∈ bdeps ops i) : a.tmps[d]? = some (mval vs y) := h.vl j d y hT (h.dp j hj)
theorem MX.vale (h : MX ops T sl es R a0 i listed vs a w) (j d k : Nat) (hT : T[j]? = some (some d, .inr k)) (hj : j ∈ bdeps ops i) {v : Value} (hv : vs k = some v) : a.tmps[d]? = some v := by
  rw [h.vl j d _ hT (h.dp j hj), mval, hv]; rfl
end
theorem lmx_mem {T : List (Option Nat × (Value ⊕ Nat))} {vs : Nat → Option Value} {i d : Nat} {y : Value ⊕ Nat} (h : T[i]? = some (some d, y)) : (d, mval vs y) ∈ Lmx T vs := by
  unfold Lmx
  rw [List.mem_filterMap]
  exact ⟨_, List.mem_of_getElem? h, rfl⟩
theorem lmx_fst (T : List (Option Nat × (Value ⊕ Nat))) (vs : Nat → Option Value) : (Lmx T vs).map Prod.fst = T.filterMap Prod.fst := by
  unfold Lmx
  induction T with
  | nil => rfl
  | cons x T ih =>
    obtain ⟨d, y⟩ := x
    cases d with
    | none =>
      rw [List.filterMap_cons, List.filterMap_cons]
      simpa [ment] using ih
    | some d =>
      rw [List.filterMap_cons, List.filterMap_cons]
      simpa [ment] using ih
theorem nodup_idx {sl : List Nat} {T : List (Option Nat × (Value ⊕ Nat))} (hT : T.filterMap Prod.fst = sl) (hnd : sl.Nodup) {i j d : Nat} {x y : Value ⊕ Nat} (hi : T[i]? = some (some d, x)) (hj : T[j]? = some (some d, y)) : i = j := by
  subst hT
  induction T generalizing i j with
  | nil => simp at hi
  | cons z T ih =>
    have hsub : ∀ {k : Nat} {u : Value ⊕ Nat}, T[k]? = some (some d, u) → d ∈ T.filterMap Prod.fst := fun h => List.mem_filterMap.2 ⟨_, List.mem_of_getElem? h, rfl⟩
    have hnd' : (T.filterMap Prod.fst).Nodup := by
      rw [List.filterMap_cons] at hnd
      split at hnd
      · exact hnd
      · exact (List.nodup_cons.1 hnd).2
    cases i with
    | zero =>
      cases j with
      | zero => rfl
      | succ j =>
        simp only [List.getElem?_cons_zero, List.getElem?_cons_succ] at hi hj
        obtain rfl := Option.some.inj hi
        rw [List.filterMap_cons] at hnd
        exact absurd (hsub hj) (List.nodup_cons.1 hnd).1
    | succ i =>
      cases j with
      | zero =>
        simp only [List.getElem?_cons_zero, List.getElem?_cons_succ] at hi hj
        obtain rfl := Option.some.inj hj
        rw [List.filterMap_cons] at hnd
        exact absurd (hsub hi) (List.nodup_cons.1 hnd).1
      | succ j =>
        simp only [List.getElem?_cons_succ] at hi hj
        rw [ih hi hj hnd']
theorem wp_region_mx {P : Program} {ops : Array Oper} {Q : Exit → Act → World → Prop} {id : Nat} {a0 : Act} {w : World} (hm : P.follows .mixedOrders = true) (T : List (Option Nat × (Value ⊕ Nat))) (sl : List Nat) (K : List (Option Nat)) (es : List Nat) (hT : T.filterMap Prod.fst = sl) (hK : T.map (fun x => shp x.2) = K) (hlen : T.length = ops.size)
    (hc : chk ops ops.size = true) (hch : listK K es = true) (hnd : sl.Nodup) (hsz : ∀ d ∈ sl, d < a0.tmps.size) (R : (Nat → Option Value) → World → Prop) (h0 : R (fun _ => none) w.drew)
    (hstep : ∀ i d x, T[i]? = some (d, x) → ∀ listed vs a w, MX ops T sl es R a0 i listed vs a w → wpOp P ops Q i (fun a' w' => OutM R vs d a w a' w' x) a w)
    (hend : ∀ vs w, (∀ k, k < es.length → ∃ v, vs k = some v) → R vs w → Q .normal (lay a0 (Lmx T vs)) w) : (Code.region id ops true).wp P Q a0 w := by
  have hKT : ∀ i, K[i]? = (T[i]?).map (fun (x : Option Nat × (Value ⊕ Nat)) => shp x.2) := fun i => by rw [← hK, List.getElem?_map]
  have hsm : ∀ {i d x}, T[i]? = some (some d, x) → d ∈ sl := fun h => by rw [← hT]; exact List.mem_filterMap.2 ⟨_, List.mem_of_getElem? h, rfl⟩
  refine wp_region_any hm (wpAny_inv (fun listed a w => Down ops listed ∧ ∃ vs, R vs w ∧ (∀ k j, es[k]? = some j → (listed.getD j false = true ↔ (vs k).isSome = true)) ∧ a.defers = a0.defers ∧ a.tmps.size = a0.tmps.size ∧ (∀ t, t ∉ sl → a.tmps[t]? = a0.tmps[t]?) ∧ (∀ j d y, T[j]? = some (some d, y) → listed.getD j false = true → a.tmps[d]? = some (mval vs y))) ?_ ?_ _ _ _ _ (by simp) (by simp [todo]) ⟨?_, fun _ => none, h0, ?_, rfl, rfl, fun _ _ => rfl, ?_⟩)
  · rintro listed a w hs ⟨hd, vs, hR, hes, hdf, hsz0, hot, hvl⟩ i hi
    obtain ⟨g1, g2⟩ := ready_mem hi
    have g3 := ready_deps hi
    have g4 : listed.getD i false = false := by
      have hl' : i < listed.size := by omega
      simp only [Array.getD, hl', dite_true] at g2 ⊢
      exact g2
    have hd' : Down ops (listed.setIfInBounds i true) := by
      intro x hx j hj
      rw [got_set (by omega)] at hx ⊢
      split
      · rfl
      · split at hx
        · rename_i e; subst e; exact g3 j hj
        · exact hd x hx j hj
    obtain ⟨d, x, hx⟩ : ∃ d x, T[i]? = some (d, x) := ⟨_, _, List.getElem?_eq_getElem (by omega)⟩
    refine wpOp_mono ?_ (hstep i d x hx listed vs a w ⟨hd, g4, g3, hes, hR, hot, hvl⟩)
    intro a' w' ho
    have hput : ∀ v, (∀ t, t ∉ sl → (a.put d v).tmps[t]? = a0.tmps[t]?) ∧ (a.put d v).defers = a0.defers ∧ (a.put d v).tmps.size = a0.tmps.size ∧ (∀ j d' y, i ≠ j → T[j]? = some (some d', y) → (a.put d v).tmps[d']? = a.tmps[d']?) ∧ (∀ d', d = some d' → (a.put d v).tmps[d']? = some v) := by
      intro v
      cases d with
      | none => exact ⟨hot, hdf, hsz0, fun _ _ _ _ _ => rfl, fun d' h => by cases h⟩
      | some d =>
        refine ⟨fun t ht => ?_, by rw [vdefers_put]; exact hdf, by rw [vsize_put]; exact hsz0, fun j d' y hne hj => ?_, fun d' h => ?_⟩
        · rw [vget_put, if_neg]
          · exact hot t ht
          · rintro rfl; exact ht (hsm hx)
        · rw [vget_put, if_neg]
          intro e
          subst e
          exact hne (nodup_idx hT hnd hx hj)
        · obtain rfl := Option.some.inj h
          rw [vget_put, hsz0, if_pos rfl, if_pos (hsz _ (hsm hx))]
    refine ⟨hd', ?_⟩
    cases x with
    | inl c =>
      obtain ⟨rfl, rfl⟩ := ho
      obtain ⟨p1, p2, p3, p4, p5⟩ := hput c
      refine ⟨vs, hR, fun k j hj => ?_, p2, p3, p1, fun j d' y hj hl => ?_⟩
      · have hne : i ≠ j := fun e => by
          have := listK2 hch hj
          rw [← e, hKT, hx] at this
          simp [shp] at this
        rw [got_set (by omega), if_neg hne]
        exact hes k j hj
      · by_cases e : i = j
        · subst e
          rw [hx] at hj
          obtain ⟨rfl, rfl⟩ := Prod.mk.inj (Option.some.inj hj)
          exact p5 d' rfl
        · rw [got_set (by omega), if_neg e] at hl
          rw [p4 j d' y e hj]
          exact hvl j d' y hj hl
    | inr k =>
      obtain ⟨v, rfl, hR'⟩ := ho
      obtain ⟨p1, p2, p3, p4, p5⟩ := hput v
      have h1 : K[i]? = some (some k) := by rw [hKT, hx]; rfl
      have h2 := listK1 hch h1
      refine ⟨upv vs k v, hR', fun k' j hj => ?_, p2, p3, p1, fun j d' y hj hl => ?_⟩
      · rw [got_set (by omega)]
        by_cases e : i = j
        · subst e
          have := listK2 hch hj
          rw [h1] at this
          have e2 : k = k' := by simpa using this
          subst e2
          rw [if_pos rfl, upv_same]
          simp
        · rw [if_neg e, upv_ne _ _ (fun e2 => by rw [e2, h2] at hj; exact e (Option.some.inj hj))]
          exact hes k' j hj
      · by_cases e : i = j
        · subst e
          rw [hx] at hj
          obtain ⟨rfl, rfl⟩ := Prod.mk.inj (Option.some.inj hj)
          rw [p5 d' rfl, mval, upv_same]
          rfl
        · rw [got_set (by omega), if_neg e] at hl
          rw [p4 j d' y e hj, hvl j d' y hj hl]
          cases y with
          | inl c => rfl
          | inr k' =>
            have h8 : K[j]? = some (some k') := by rw [hKT, hj]; rfl
            have hne : k' ≠ k := fun e2 => by
              have := listK1 hch h8
              rw [e2, h2] at this
              exact e (Option.some.inj this)
            rw [mval, mval, upv_ne _ _ hne]
  · rintro listed a w hs ⟨hd, vs, hR, hes, hdf, hsz0, hot, hvl⟩ hr
    have hall := ready_nil hs hc hr
    have ha : a = lay a0 (Lmx T vs) := by
      refine act_ext (fun t => ?_) (by rw [hdf, lay_defers])
      by_cases ht : t ∈ sl
      · rw [← hT] at ht
        obtain ⟨x, hx, hxd⟩ := List.mem_filterMap.1 ht
        obtain ⟨d, y⟩ := x
        obtain rfl : d = some t := hxd
        obtain ⟨i, hi, hi2⟩ := List.mem_iff_getElem.1 hx
        have hti : T[i]? = some (some t, y) := by rw [← hi2]; simp [hi]
        rw [lay_at (Lmx T vs) a0 (by rw [lmx_fst, hT]; exact hnd) (fun z hz => hsz _ (by
          rw [← hT, ← lmx_fst T vs]; exact List.mem_map_of_mem hz)) _ (lmx_mem hti)]
        exact hvl i t y hti (hall i (by omega))
      · rw [lay_other (Lmx T vs) a0 t (by rw [lmx_fst, hT]; exact ht)]
        exact hot t ht
    rw [ha]
    refine hend vs w (fun k hk => ?_) hR
    have h1 : es[k]? = some es[k] := by simp [hk]
    have h2 := (List.getElem?_eq_some_iff.1 (listK2 hch h1)).1
    have hKl : K.length = ops.size := by rw [← hK, List.length_map, hlen]
    exact Option.isSome_iff_exists.1 ((hes k _ h1).1 (hall _ (by omega)))
  · intro i hi
    simp [Array.getD_eq_getD_getElem?, Array.getElem?_replicate] at hi
    split at hi <;> simp at hi
  · intro k j hj
    have : (Array.replicate ops.size false).getD j false = false := by
      simp [Array.getD_eq_getD_getElem?, Array.getElem?_replicate]
      split <;> rfl
    rw [this]
    simp
  · intro j d y hj hl
    simp [Array.getD_eq_getD_getElem?, Array.getElem?_replicate] at hl
    split at hl <;> simp at hl
theorem veval_of {a : Act} {n : Nat} {v : Value} (h : a.tmps[n]? = some v) : a.eval (.tmp n) = v := by
  simp [Act.eval, Array.getD_eq_getD_getElem?, h]
theorem wpOp_of {P : Program} {ops : Array Oper} {Q : Exit → Act → World → Prop} {i : Nat} {K : Act → World → Prop} {a : Act} {w : World} (o : Oper) (ho : ops[i]? = some o) (hg : o.guard = none) (h : o.wp P a w K Q) : wpOp P ops Q i K a w := by
  unfold wpOp
  rw [ho]
  have : Region.wanted o (yielded ops a.tmps) = true := by simp [Region.wanted, hg]
  simp only [this, if_true]
  exact Or.inl h
theorem wpOp_no {P : Program} {ops : Array Oper} {Q : Exit → Act → World → Prop} {i : Nat} {K : Act → World → Prop} {a : Act} {w : World} (o : Oper) (ho : ops[i]? = some o) (j : Nat) (oj : Oper) (hj : ops[j]? = some oj) (d : Nat) (hd : oj.dst = some d) (hg : o.guard = some (j, true)) (hv : a.tmps[d]? = some (.bool false)) (h : K (a.put o.dst undef) w) : wpOp P ops Q i K a w := by
  unfold wpOp
  rw [ho]
  have : Region.wanted o (yielded ops a.tmps) = false := by simp [Region.wanted, hg, yielded, hj, hd, hv]
  simp only [this, Bool.false_eq_true, if_false]
  exact h
theorem wpOp_yes {P : Program} {ops : Array Oper} {Q : Exit → Act → World → Prop} {i : Nat} {K : Act → World → Prop} {a : Act} {w : World} (o : Oper) (ho : ops[i]? = some o) (j : Nat) (oj : Oper) (hj : ops[j]? = some oj) (d : Nat) (hd : oj.dst = some d) (hg : o.guard = some (j, true)) (hv : a.tmps[d]? = some (.bool true)) (h : o.wp P a w K Q) : wpOp P ops Q i K a w := by
  unfold wpOp
  rw [ho]
  have : Region.wanted o (yielded ops a.tmps) = true := by simp [Region.wanted, hg, yielded, hj, hd, hv]
  simp only [this, if_true]
  exact Or.inl h
theorem wpOp_noF {P : Program} {ops : Array Oper} {Q : Exit → Act → World → Prop} {i : Nat} {K : Act → World → Prop} {a : Act} {w : World} (o : Oper) (ho : ops[i]? = some o) (j : Nat) (oj : Oper) (hj : ops[j]? = some oj) (d : Nat) (hd : oj.dst = some d) (hg : o.guard = some (j, false)) (hv : a.tmps[d]? = some (.bool true)) (h : K (a.put o.dst undef) w) : wpOp P ops Q i K a w := by
  unfold wpOp
  rw [ho]
  have : Region.wanted o (yielded ops a.tmps) = false := by simp [Region.wanted, hg, yielded, hj, hd, hv]
  simp only [this, Bool.false_eq_true, if_false]
  exact h
theorem wpOp_yesF {P : Program} {ops : Array Oper} {Q : Exit → Act → World → Prop} {i : Nat} {K : Act → World → Prop} {a : Act} {w : World} (o : Oper) (ho : ops[i]? = some o) (j : Nat) (oj : Oper) (hj : ops[j]? = some oj) (d : Nat) (hd : oj.dst = some d) (hg : o.guard = some (j, false)) (hv : a.tmps[d]? = some (.bool false)) (h : o.wp P a w K Q) : wpOp P ops Q i K a w := by
  unfold wpOp
  rw [ho]
  have : Region.wanted o (yielded ops a.tmps) = true := by simp [Region.wanted, hg, yielded, hj, hd, hv]
  simp only [this, if_true]
  exact Or.inl h
theorem put_litx (l : List Value) (d : List Deferred) (i : Nat) (v : Value) : Act.put ⟨l.toArray, d⟩ (some i) v = ⟨(l.set i v).toArray, d⟩ := by simp [Act.put]
/-- What stands while such a region runs: each answer so far, in the world at hand. -/
def RK (w0 : World) (V : Nat → Value → World → Prop) (vs : Nat → Option Value) (w : World) : Prop := Keep w0 w ∧ ∀ k u, vs k = some u → V k u w
theorem RK.start {w0 : World} {V : Nat → Value → World → Prop} : RK w0 V (fun _ => none) w0 := ⟨Keep.refl _, fun k u h => by cases h⟩
theorem RK.step {w0 w y : World} {V : Nat → Value → World → Prop} {vs : Nat → Option Value} (h : RK w0 V vs w) (hV : ∀ k u Z Z', Keep Z Z' → V k u Z → V k u Z') {k : Nat} {u : Value} (kz : Keep w y) (hu : V k u y) : RK w0 V (upv vs k u) y := by
  refine ⟨h.1.trans kz, fun j x hx => ?_⟩
  by_cases e : j = k
  · subst e
    rw [upv_same] at hx
    rw [← Option.some.inj hx]
    exact hu
  · rw [upv_ne _ _ e] at hx
    exact hV j x _ _ kz (h.2 j x hx)
end Go.Qv
