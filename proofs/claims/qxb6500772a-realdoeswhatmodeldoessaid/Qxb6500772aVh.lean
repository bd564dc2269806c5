/- A region that draws its order: some operations have one value; the others answer as they may, and what they answered is kept. -/
import Derived.Test.Qxb6500772aVg
namespace Go.Qm
open Go Go.RowKit
set_option linter.unusedSimpArgs false
set_option linter.unusedVariables false
def mval (vs : Nat → Option Value) : Value ⊕ Nat → Value
  | .inl c => c
  | .inr k => (vs k).getD undef
def ment (vs : Nat → Option Value) (x : Option Nat × (Value ⊕ Nat)) : Option (Nat × Value) := x.1.map fun d => (d, mval vs x.2)
def Lmx (T : List (Option Nat × (Value ⊕ Nat))) (vs : Nat → Option Value) : List (Nat × Value) := T.filterMap (ment vs)
def shp : Value ⊕ Nat → Option Nat
  | .inl _ => none
  | .inr k => some k
def upv (vs : Nat → Option Value) (k : Nat) (v : Value) : Nat → Option Value := fun j => if j = k then some v else vs j
theorem upv_same (vs : Nat → Option Value) (k : Nat) (v : Value) : upv vs k v k = some v := by simp [upv]
theorem upv_ne (vs : Nat → Option Value) {k j : Nat} (v : Value) (h : j ≠ k) : upv vs k v j = vs j := by simp [upv, h]
def reach (ops : Array Oper) : Nat → Nat → Nat → Bool
  | 0, _, _ => false
  | n + 1, i, j => (bdeps ops i).any fun x => x == j || reach ops n x j
theorem reach_listed {ops : Array Oper} {listed : Array Bool} (hd : Down ops listed) : ∀ n i j, (∀ x ∈ bdeps ops i, listed.getD x false = true) → reach ops n i j = true → listed.getD j false = true
  | 0, i, j, _, h => by simp [reach] at h
  | n + 1, i, j, hx, h => by
    rw [reach, List.any_eq_true] at h
    obtain ⟨x, hm, he⟩ := h
    rw [Bool.or_eq_true] at he
    rcases he with he | he
    · rw [← (by simpa using he : x = j)]; exact hx x hm
    · exact reach_listed hd n x j (fun y hy => hd x (hx x hm) y hy) he
/-- The check: K says which operations answer as they may; es lists them. -/
def listK (K : List (Option Nat)) (es : List Nat) : Bool :=
  (List.range K.length).all (fun i => match K[i]? with | some (some k) => es[k]? == some i | _ => true) &&
  (List.range es.length).all (fun k => K[es.getD k 0]? == some (some k))
theorem listK1 {K : List (Option Nat)} {es : List Nat} (h : listK K es = true) {i k : Nat} (hi : K[i]? = some (some k)) : es[k]? = some i := by
  unfold listK at h
  rw [Bool.and_eq_true] at h
  have h1 := List.all_eq_true.1 h.1 i (List.mem_range.2 (List.getElem?_eq_some_iff.1 hi).1)
  rw [hi] at h1
  simpa using h1
theorem listK2 {K : List (Option Nat)} {es : List Nat} (h : listK K es = true) {i k : Nat} (hi : es[k]? = some i) : K[i]? = some (some k) := by
  unfold listK at h
  rw [Bool.and_eq_true] at h
  have h1 := List.all_eq_true.1 h.2 k (List.mem_range.2 (List.getElem?_eq_some_iff.1 hi).1)
  rw [List.getD_eq_getElem?_getD, hi] at h1
  simpa using h1
def OutM (R : (Nat → Option Value) → World → Prop) (vs : Nat → Option Value) (d : Option Nat) (a : Act) (w : World) (a' : Act) (w' : World) : Value ⊕ Nat → Prop
  | .inl c => a' = a.put d c ∧ w' = w
  | .inr k => ∃ v, a' = a.put d v ∧ R (upv vs k v) w'
/-- What an operation i finds. -/
structure MX (ops : Array Oper) (T : List (Option Nat × (Value ⊕ Nat))) (sl es : List Nat) (R : (Nat → Option Value) → World → Prop) (a0 : Act) (i : Nat) (listed : Array Bool) (vs : Nat → Option Value) (a : Act) (w : World) : Prop where
  dn : Down ops listed
  no : listed.getD i false = false
  dp : ∀ j ∈ bdeps ops i, listed.getD j false = true
  es : ∀ k j, es[k]? = some j → (listed.getD j false = true ↔ (vs k).isSome = true)
  r : R vs w
  ot : ∀ t, t ∉ sl → a.tmps[t]? = a0.tmps[t]?
  vl : ∀ j d y, T[j]? = some (some d, y) → listed.getD j false = true → a.tmps[d]? = some (mval vs y)
section
variable {ops : Array Oper} {T : List (Option Nat × (Value ⊕ Nat))} {sl es : List Nat} {R : (Nat → Option Value) → World → Prop} {a0 : Act} {i : Nat} {listed : Array Bool} {vs : Nat → Option Value} {a : Act} {w : World}
theorem MX.has (h : MX ops T sl es R a0 i listed vs a w) (k j : Nat) (hk : es[k]? = some j) (n : Nat) (hr : reach ops n i j = true) : ∃ v, vs k = some v :=
  Option.isSome_iff_exists.1 ((h.es k j hk).1 (reach_listed h.dn n i j h.dp hr))
theorem MX.not (h : MX ops T sl es R a0 i listed vs a w) (k : Nat) (hk : es[k]? = some i) : vs k = none := by
  cases e : vs k with
  | none => rfl
  | some v =>
    have := (h.es k i hk).2 (by rw [e]; rfl)
    rw [h.no] at this
    cases this
theorem MX.later (h : MX ops T sl es R a0 i listed vs a w) (k j : Nat) (hk : es[k]? = some j) (n : Nat) (hr : reach ops n j i = true) : vs k = none := by
  cases e : vs k with
  | none => rfl
  | some v =>
    have h1 := (h.es k j hk).2 (by rw [e]; rfl)
    have := reach_listed h.dn n j i (fun x hx => h.dn j h1 x hx) hr
    rw [h.no] at this
    cases this
theorem MX.val (h : MX ops T sl es R a0 i listed vs a w) (j d : Nat) (y : Value ⊕ Nat) (hT : T[j]? = some (some d, y)) (hj : j ∈ bdeps ops i) : a.tmps[d]? = some (mval vs y) := h.vl j d y hT (h.dp j hj)
theorem MX.vale (h : MX ops T sl es R a0 i listed vs a w) (j d k : Nat) (hT : T[j]? = some (some d, .inr k)) (hj : j ∈ bdeps ops i) {v : Value} (hv : vs k = some v) : a.tmps[d]? = some v := by
  rw [h.vl j d _ hT (h.dp j hj), mval, hv]; rfl
end
theorem lmx_mem {T : List (Option Nat × (Value ⊕ Nat))} {vs : Nat → Option Value} {i d : Nat} {y : Value ⊕ Nat} (h : T[i]? = some (some d, y)) : (d, mval vs y) ∈ Lmx T vs := by
  unfold Lmx
  rw [List.mem_filterMap]
  exact ⟨_, List.mem_of_getElem? h, rfl⟩
theorem lmx_fst (T : List (Option Nat × (Value ⊕ Nat))) (vs : Nat → Option Value) : (Lmx T vs).map Prod.fst = T.filterMap Prod.fst := by
  unfold Lmx
  induction T with
  | nil => rfl
  | cons x T ih =>
    obtain ⟨d, y⟩ := x
    cases d with
    | none =>
      rw [List.filterMap_cons, List.filterMap_cons]
      simpa [ment] using ih
    | some d =>
      rw [List.filterMap_cons, List.filterMap_cons]
      simpa [ment] using ih
theorem nodup_idx {sl : List Nat} {T : List (Option Nat × (Value ⊕ Nat))} (hT : T.filterMap Prod.fst = sl) (hnd : sl.Nodup) {i j d : Nat} {x y : Value ⊕ Nat} (hi : T[i]? = some (some d, x)) (hj : T[j]? = some (some d, y)) : i = j := by
  subst hT
  induction T generalizing i j with
  | nil => simp at hi
  | cons z T ih =>
    have hsub : ∀ {k : Nat} {u : Value ⊕ Nat}, T[k]? = some (some d, u) → d ∈ T.filterMap Prod.fst := fun h => List.mem_filterMap.2 ⟨_, List.mem_of_getElem? h, rfl⟩
    have hnd' : (T.filterMap Prod.fst).Nodup := by
      rw [List.filterMap_cons] at hnd
      split at hnd
      · exact hnd
      · exact (List.nodup_cons.1 hnd).2
    cases i with
    | zero =>
      cases j with
      | zero => rfl
      | succ j =>
        simp only [List.getElem?_cons_zero, List.getElem?_cons_succ] at hi hj
        obtain rfl := Option.some.inj hi
        rw [List.filterMap_cons] at hnd
        exact absurd (hsub hj) (List.nodup_cons.1 hnd).1
    | succ i =>
      cases j with
      | zero =>
        simp only [List.getElem?_cons_zero, List.getElem?_cons_succ] at hi hj
        obtain rfl := Option.some.inj hj
        rw [List.filterMap_cons] at hnd
        exact absurd (hsub hi) (List.nodup_cons.1 hnd).1
      | succ j =>
        simp only [List.getElem?_cons_succ] at hi hj
        rw [ih hi hj hnd']
theorem wp_region_mx {P : Program} {ops : Array Oper} {Q : Exit → Act → World → Prop} {id : Nat} {a0 : Act} {w : World} (hm : P.follows .mixedOrders = true) (T : List (Option Nat × (Value ⊕ Nat))) (sl : List Nat) (K : List (Option Nat)) (es : List Nat) (hT : T.filterMap Prod.fst = sl) (hK : T.map (fun x => shp x.2) = K) (hlen : T.length = ops.size)
    (hc : chk ops ops.size = true) (hch : listK K es = true) (hnd : sl.Nodup) (hsz : ∀ d ∈ sl, d < a0.tmps.size) (R : (Nat → Option Value) → World → Prop) (h0 : R (fun _ => none) w.drew)
    (hstep : ∀ i d x, T[i]? = some (d, x) → ∀ listed vs a w, MX ops T sl es R a0 i listed vs a w → wpOp P ops Q i (fun a' w' => OutM R vs d a w a' w' x) a w)
    (hend : ∀ vs w, (∀ k, k < es.length → ∃ v, vs k = some v) → R vs w → Q .normal (lay a0 (Lmx T vs)) w) : (Code.region id ops true).wp P Q a0 w := by
  have hKT : ∀ i, K[i]? = (T[i]?).map (fun (x : Option Nat × (Value ⊕ Nat)) => shp x.2) := fun i => by rw [← hK, List.getElem?_map]
  have hsm : ∀ {i d x}, T[i]? = some (some d, x) → d ∈ sl := fun h => by rw [← hT]; exact List.mem_filterMap.2 ⟨_, List.mem_of_getElem? h, rfl⟩
  refine wp_region_any hm (wpAny_inv (fun listed a w => Down ops listed ∧ ∃ vs, R vs w ∧ (∀ k j, es[k]? = some j → (listed.getD j false = true ↔ (vs k).isSome = true)) ∧ a.defers = a0.defers ∧ a.tmps.size = a0.tmps.size ∧ (∀ t, t ∉ sl → a.tmps[t]? = a0.tmps[t]?) ∧ (∀ j d y, T[j]? = some (some d, y) → listed.getD j false = true → a.tmps[d]? = some (mval vs y))) ?_ ?_ _ _ _ _ (by simp) (by simp [todo]) ⟨?_, fun _ => none, h0, ?_, rfl, rfl, fun _ _ => rfl, ?_⟩)
  · rintro listed a w hs ⟨hd, vs, hR, hes, hdf, hsz0, hot, hvl⟩ i hi
    obtain ⟨g1, g2⟩ := ready_mem hi
    have g3 := ready_deps hi
    have g4 : listed.getD i false = false := by
      have hl' : i < listed.size := by omega
      simp only [Array.getD, hl', dite_true] at g2 ⊢
      exact g2
    have hd' : Down ops (listed.setIfInBounds i true) := by
      intro x hx j hj
      rw [got_set (by omega)] at hx ⊢
      split
      · rfl
      · split at hx
        · rename_i e; subst e; exact g3 j hj
        · exact hd x hx j hj
    obtain ⟨d, x, hx⟩ : ∃ d x, T[i]? = some (d, x) := ⟨_, _, List.getElem?_eq_getElem (by omega)⟩
    refine wpOp_mono ?_ (hstep i d x hx listed vs a w ⟨hd, g4, g3, hes, hR, hot, hvl⟩)
    intro a' w' ho
    have hput : ∀ v, (∀ t, t ∉ sl → (a.put d v).tmps[t]? = a0.tmps[t]?) ∧ (a.put d v).defers = a0.defers ∧ (a.put d v).tmps.size = a0.tmps.size ∧ (∀ j d' y, i ≠ j → T[j]? = some (some d', y) → (a.put d v).tmps[d']? = a.tmps[d']?) ∧ (∀ d', d = some d' → (a.put d v).tmps[d']? = some v) := by
      intro v
      cases d with
      | none => exact ⟨hot, hdf, hsz0, fun _ _ _ _ _ => rfl, fun d' h => by cases h⟩
      | some d =>
        refine ⟨fun t ht => ?_, by rw [vdefers_put]; exact hdf, by rw [vsize_put]; exact hsz0, fun j d' y hne hj => ?_, fun d' h => ?_⟩
        · rw [vget_put, if_neg]
          · exact hot t ht
          · rintro rfl; exact ht (hsm hx)
        · rw [vget_put, if_neg]
          intro e
          subst e
          exact hne (nodup_idx hT hnd hx hj)
        · obtain rfl := Option.some.inj h
          rw [vget_put, hsz0, if_pos rfl, if_pos (hsz _ (hsm hx))]
    refine ⟨hd', ?_⟩
    cases x with
    | inl c =>
      obtain ⟨rfl, rfl⟩ := ho
      obtain ⟨p1, p2, p3, p4, p5⟩ := hput c
      refine ⟨vs, hR, fun k j hj => ?_, p2, p3, p1, fun j d' y hj hl => ?_⟩
      · have hne : i ≠ j := fun e => by
          have := listK2 hch hj
          rw [← e, hKT, hx] at this
          simp [shp] at this
        rw [got_set (by omega), if_neg hne]
        exact hes k j hj
      · by_cases e : i = j
        · subst e
          rw [hx] at hj
          obtain ⟨rfl, rfl⟩ := Prod.mk.inj (Option.some.inj hj)
          exact p5 d' rfl
        · rw [got_set (by omega), if_neg e] at hl
          rw [p4 j d' y e hj]
          exact hvl j d' y hj hl
    | inr k =>
      obtain ⟨v, rfl, hR'⟩ := ho
      obtain ⟨p1, p2, p3, p4, p5⟩ := hput v
      have h1 : K[i]? = some (some k) := by rw [hKT, hx]; rfl
      have h2 := listK1 hch h1
      refine ⟨upv vs k v, hR', fun k' j hj => ?_, p2, p3, p1, fun j d' y hj hl => ?_⟩
      · rw [got_set (by omega)]
        by_cases e : i = j
        · subst e
          have := listK2 hch hj
          rw [h1] at this
          have e2 : k = k' := by simpa using this
          subst e2
          rw [if_pos rfl, upv_same]
          simp
        · rw [if_neg e, upv_ne _ _ (fun e2 => by rw [e2, h2] at hj; exact e (Option.some.inj hj))]
          exact hes k' j hj
      · by_cases e : i = j
        · subst e
          rw [hx] at hj
          obtain ⟨rfl, rfl⟩ := Prod.mk.inj (Option.some.inj hj)
          rw [p5 d' rfl, mval, upv_same]
          rfl
        · rw [got_set (by omega), if_neg e] at hl
          rw [p4 j d' y e hj, hvl j d' y hj hl]
          cases y with
          | inl c => rfl
          | inr k' =>
            have h8 : K[j]? = some (some k') := by rw [hKT, hj]; rfl
            have hne : k' ≠ k := fun e2 => by
              have := listK1 hch h8
              rw [e2, h2] at this
              exact e (Option.some.inj this)
            rw [mval, mval, upv_ne _ _ hne]
  · rintro listed a w hs ⟨hd, vs, hR, hes, hdf, hsz0, hot, hvl⟩ hr
    have hall := ready_nil hs hc hr
    have ha : a = lay a0 (Lmx T vs) := by
      refine act_ext (fun t => ?_) (by rw [hdf, lay_defers])
      by_cases ht : t ∈ sl
      · rw [← hT] at ht
        obtain ⟨x, hx, hxd⟩ := List.mem_filterMap.1 ht
        obtain ⟨d, y⟩ := x
        obtain rfl : d = some t := hxd
        obtain ⟨i, hi, hi2⟩ := List.mem_iff_getElem.1 hx
        have hti : T[i]? = some (some t, y) := by rw [← hi2]; simp [hi]
        rw [lay_at (Lmx T vs) a0 (by rw [lmx_fst, hT]; exact hnd) (fun z hz => hsz _ (by
          rw [← hT, ← lmx_fst T vs]; exact List.mem_map_of_mem hz)) _ (lmx_mem hti)]
        exact hvl i t y hti (hall i (by omega))
      · rw [lay_other (Lmx T vs) a0 t (by rw [lmx_fst, hT]; exact ht)]
        exact hot t ht
    rw [ha]
    refine hend vs w (fun k hk => ?_) hR
    have h1 : es[k]? = some es[k] := by simp [hk]
    have h2 := (List.getElem?_eq_some_iff.1 (listK2 hch h1)).1
    have hKl : K.length = ops.size := by rw [← hK, List.length_map, hlen]
    exact Option.isSome_iff_exists.1 ((hes k _ h1).1 (hall _ (by omega)))
  · intro i hi
    simp [Array.getD_eq_getD_getElem?, Array.getElem?_replicate] at hi
    split at hi <;> simp at hi
  · intro k j hj
    have : (Array.replicate ops.size false).getD j false = false := by
      simp [Array.getD_eq_getD_getElem?, Array.getElem?_replicate]
      split <;> rfl
    rw [this]
    simp
  · intro j d y hj hl
    simp [Array.getD_eq_getD_getElem?, Array.getElem?_replicate] at hl
    split at hl <;> simp at hl
end Go.Qm
