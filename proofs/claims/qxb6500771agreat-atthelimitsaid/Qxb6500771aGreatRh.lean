/- A drawn region of pure operations, then a slice built of them, then its assignment. -/
import Derived.Test.Qxb6500771aGreatRg
namespace Go.Qm
open Go Go.RowKit
structure RI (a0 : Act) (w0 : World) (N s0 d : Nat) (vals : Nat → Value) (B : Nat) (t : TypeId) (xs : List Value) (listed : Array Bool) (a : Act) (w : World) : Prop where
  ls : listed.size = N + 2
  df : a.defers = a0.defers
  sz : a.tmps.size = a0.tmps.size
  ot : ∀ n, ¬ (s0 ≤ n ∧ n ≤ s0 + N) → n ≠ d → a.tmps[n]? = a0.tmps[n]?
  vl : ∀ i, i < N → listed[i]? = some true → a.tmps[s0 + i]? = some (vals i)
  kp : Keep w0 w
  bd : listed[N]? = some true → ∃ v, a.tmps[s0 + N]? = some v ∧ Own B t w v xs
  ag : listed[N + 1]? = some true → ∃ v, a.tmps[d]? = some v ∧ Own B t w v xs
theorem set_get (listed : Array Bool) (i j : Nat) : (listed.setIfInBounds i true)[j]? = if i = j then (if i < listed.size then some true else none) else listed[j]? := Array.getElem?_setIfInBounds
section
variable {P : Program} {ops : Array Oper} {Q : Exit → Act → World → Prop} {id : Nat} {a0 : Act} {w0 : World} {N s0 d : Nat} {vals : Nat → Value} {B : Nat} {t : TypeId} {xs : List Value} {listed : Array Bool} {a : Act} {w w' : World}
theorem RI.val (h : RI a0 w0 N s0 d vals B t xs listed a w) {i : Nat} (hi : i < N) (hs : s0 + N < a0.tmps.size) (hd : d < s0) (hk : Keep w w') :
    RI a0 w0 N s0 d vals B t xs (listed.setIfInBounds i true) (a.put (some (s0 + i)) (vals i)) w' := by
  refine ⟨by simpa using h.ls, by rw [defers_put]; exact h.df, by rw [size_put]; exact h.sz, ?_, ?_, h.kp.trans hk, ?_, ?_⟩
  · intro n h1 h2
    rw [get_put, if_neg (by omega)]
    exact h.ot n h1 h2
  · intro k hk1 hl
    rw [get_put]
    by_cases e : i = k
    · subst e
      rw [if_pos rfl, if_pos (by rw [h.sz]; omega)]
    · rw [if_neg (by omega)]
      rw [set_get, if_neg e] at hl
      exact h.vl k hk1 hl
  · intro hl
    rw [set_get, if_neg (by omega)] at hl
    obtain ⟨v, h1, h2⟩ := h.bd hl
    exact ⟨v, by rw [get_put, if_neg (by omega)]; exact h1, h2.keep hk⟩
  · intro hl
    rw [set_get, if_neg (by omega)] at hl
    obtain ⟨v, h1, h2⟩ := h.ag hl
    exact ⟨v, by rw [get_put, if_neg (by omega)]; exact h1, h2.keep hk⟩
theorem RI.build (h : RI a0 w0 N s0 d vals B t xs listed a w) (hs : s0 + N < a0.tmps.size) (hd : d < s0) (hk : Keep w w') {v : Value} (hv : Own B t w' v xs) :
    RI a0 w0 N s0 d vals B t xs (listed.setIfInBounds N true) (a.put (some (s0 + N)) v) w' := by
  refine ⟨by simpa using h.ls, by rw [defers_put]; exact h.df, by rw [size_put]; exact h.sz, ?_, ?_, h.kp.trans hk, ?_, ?_⟩
  · intro n h1 h2
    rw [get_put, if_neg (by omega)]
    exact h.ot n h1 h2
  · intro k hk1 hl
    rw [get_put, if_neg (by omega)]
    rw [set_get, if_neg (by omega)] at hl
    exact h.vl k hk1 hl
  · intro _
    exact ⟨v, by rw [get_put, if_pos rfl, if_pos (by rw [h.sz]; omega)], hv⟩
  · intro hl
    rw [set_get, if_neg (by omega)] at hl
    obtain ⟨v, h1, h2⟩ := h.ag hl
    exact ⟨v, by rw [get_put, if_neg (by omega)]; exact h1, h2.keep hk⟩
theorem RI.assign (h : RI a0 w0 N s0 d vals B t xs listed a w) (hs : s0 + N < a0.tmps.size) (hd : d < s0) {v : Value} (hv : Own B t w v xs) :
    RI a0 w0 N s0 d vals B t xs (listed.setIfInBounds (N + 1) true) (a.put (some d) v) w := by
  refine ⟨by simpa using h.ls, by rw [defers_put]; exact h.df, by rw [size_put]; exact h.sz, ?_, ?_, h.kp, ?_, ?_⟩
  · intro n h1 h2
    rw [get_put, if_neg (by omega)]
    exact h.ot n h1 h2
  · intro k hk1 hl
    rw [get_put, if_neg (by omega)]
    rw [set_get, if_neg (by omega)] at hl
    exact h.vl k hk1 hl
  · intro hl
    rw [set_get, if_neg (by omega)] at hl
    obtain ⟨v, h1, h2⟩ := h.bd hl
    exact ⟨v, by rw [get_put, if_neg (by omega)]; exact h1, h2⟩
  · intro _
    exact ⟨v, by rw [get_put, if_pos rfl, if_pos (by rw [h.sz]; omega)], hv⟩
theorem wp_assign {o : Oper} {K : Act → World → Prop} (x : Operand) (ho : o.op = .assign x) (v : Value) (hx : a.eval x = v) (h : K (a.put o.dst v) w) : o.wp P a w K Q := by
  unfold Oper.wp execOp
  simp only [ho, hx]
  exact h
/-- THE LAW. -/
theorem region_pb (hm : P.follows .mixedOrders = true) (N s0 d : Nat) (vals : Nat → Value) (B : Nat) (t : TypeId) (xs : List Value) (dep : Nat → List Nat)
    (hsz : ops.size = N + 2) (hs : s0 + N < a0.tmps.size) (hd : d < s0)
    (hop : ∀ i, i < N → ∃ o, ops[i]? = some o ∧ o.guard = none ∧ o.dst = some (s0 + i) ∧ ∀ (a : Act) (w : World) (K : Act → World → Prop) (Q : Exit → Act → World → Prop), Keep w0 w →
      (∀ n, ¬ (s0 ≤ n ∧ n ≤ s0 + N) → n ≠ d → a.tmps[n]? = a0.tmps[n]?) → (∀ j ∈ dep i, a.tmps[s0 + j]? = some (vals j)) → (∀ w', Keep w w' → K (a.put o.dst (vals i)) w') → o.wp P a w K Q)
    (hb : ∃ o, ops[N]? = some o ∧ o.guard = none ∧ o.dst = some (s0 + N) ∧ ∀ (a : Act) (w : World) (K : Act → World → Prop) (Q : Exit → Act → World → Prop), Keep w0 w →
      (∀ j ∈ dep N, a.tmps[s0 + j]? = some (vals j)) → (∀ v w', Own B t w' v xs → Keep w w' → K (a.put o.dst v) w') → o.wp P a w K Q)
    (hg : ∃ o, ops[N + 1]? = some o ∧ o.guard = none ∧ o.dst = some d ∧ o.op = .assign (.tmp (s0 + N)))
    (hdl : ∀ i j, i ≤ N → j ∈ dep i → j < N) (hdg : dep (N + 1) = [N])
    (hr : ∀ listed : Array Bool, listed.size = N + 2 → (Region.ready .any ops listed = [] → ∀ i < N + 2, listed[i]? = some true) ∧ ∀ i ∈ Region.ready .any ops listed, i < N + 2 ∧ ∀ j ∈ dep i, listed[j]? = some true)
    (hend : ∀ a w v, a.defers = a0.defers → a.tmps.size = a0.tmps.size → (∀ n, ¬ (s0 ≤ n ∧ n ≤ s0 + N) → n ≠ d → a.tmps[n]? = a0.tmps[n]?) → a.tmps[d]? = some v → Own B t w v xs → Keep w0 w → Q .normal a w) :
    (Code.region id ops true).wp P Q a0 w0 := by
  refine wp_region_inv hm (RI a0 w0 N s0 d vals B t xs) ?_ ?_ ?_
  · intro listed a w hls hI i hi
    obtain ⟨hi2, hdep⟩ := (hr listed hI.ls).2 i hi
    by_cases h1 : i < N
    · obtain ⟨o, ho, hgd, hdst, hw⟩ := hop i h1
      refine wpOp_of o ho hgd (hw a w _ _ hI.kp hI.ot (fun j hj => hI.vl j (hdl i j (by omega) hj) (hdep j hj)) ?_)
      intro w' hk
      rw [hdst]
      exact hI.val h1 hs hd hk
    · by_cases h2 : i = N
      · subst h2
        obtain ⟨o, ho, hgd, hdst, hw⟩ := hb
        refine wpOp_of o ho hgd (hw a w _ _ hI.kp (fun j hj => hI.vl j (hdl i j (by omega) hj) (hdep j hj)) ?_)
        intro v w' hv hk
        rw [hdst]
        exact hI.build hs hd hk hv
      · have h3 : i = N + 1 := by omega
        subst h3
        obtain ⟨o, ho, hgd, hdst, hop'⟩ := hg
        obtain ⟨v, hv1, hv2⟩ := hI.bd (hdep N (by rw [hdg]; simp))
        refine wpOp_of o ho hgd (wp_assign _ hop' v (eval_of hv1) ?_)
        rw [hdst]
        exact hI.assign hs hd hv2
  · intro listed a w hI hr0
    have hall := (hr listed hI.ls).1 hr0
    obtain ⟨v, hv1, hv2⟩ := hI.ag (hall (N + 1) (by omega))
    exact hend a w v hI.df hI.sz hI.ot hv1 hv2 hI.kp
  · refine ⟨by simp [hsz], rfl, rfl, fun _ _ _ => rfl, ?_, (Keep.refl w0).drew, ?_, ?_⟩
    · intro i hi hl
      simp [Array.getElem?_replicate] at hl
    · intro hl
      simp [Array.getElem?_replicate] at hl
    · intro hl
      simp [Array.getElem?_replicate] at hl
end
end Go.Qm
