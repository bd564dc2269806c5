/- blast: which input carries which bit (plain). -/
import Derived.Test.Qxb6500772aTa
import Derived.Test.Qxb6500772aCm
namespace Go.Proofs.Qxb6500772a
set_option linter.unusedVariables false
set_option linter.unusedSimpArgs false
/-- The number that the inputs o, o+1 .. carry. -/
def rdB (inp : Nat → Bool) (o : Nat) : Nat → Nat
  | 0 => 0
  | w + 1 => rdB inp o w + (inp (o + w)).toNat * 2 ^ w
theorem rdB_lt (inp : Nat → Bool) (o : Nat) : ∀ w, rdB inp o w < 2 ^ w
  | 0 => by simp [rdB]
  | w + 1 => by
    have := rdB_lt inp o w
    rw [rdB, Nat.pow_succ]
    cases inp (o + w) <;> simp <;> omega
theorem rdB_bit (inp : Nat → Bool) (o : Nat) : ∀ w i, i < w → (rdB inp o w).testBit i = inp (o + i)
  | w + 1, i, h => by
    have hl := rdB_lt inp o w
    rw [rdB, Nat.add_comm, Nat.mul_comm]
    by_cases hi : i = w
    · subst hi
      rw [Nat.testBit_two_pow_mul_add _ hl]
      simp
      cases inp (o + i) <;> simp
    · rw [Nat.testBit_two_pow_mul_add _ hl, if_pos (by omega)]
      exact rdB_bit inp o w i (by omega)
theorem rdB_eq {inp : Nat → Bool} {o w v : Nat} (hv : v < 2 ^ w) (h : ∀ b < w, inp (o + b) = v.testBit b) : rdB inp o w = v := by
  apply Nat.eq_of_testBit_eq
  intro i
  by_cases hi : i < w
  · rw [rdB_bit _ _ _ _ hi, h i hi]
  · rw [Nat.testBit_lt_two_pow (Nat.lt_of_lt_of_le (rdB_lt inp o w) (Nat.pow_le_pow_right (by decide) (by omega))), Nat.testBit_lt_two_pow (Nat.lt_of_lt_of_le hv (Nat.pow_le_pow_right (by decide) (by omega)))]
/-- How many inputs lie ahead of cell i. -/
def offW (ws : List Int) (i : Nat) : Nat := ((ws.take i).map Int.toNat).sum
theorem offW_zero (ws : List Int) : offW ws 0 = 0 := by simp [offW]
theorem offW_succ (ws : List Int) (i : Nat) (h : i < ws.length) : offW ws (i + 1) = offW ws i + (ws.getD i 0).toNat := by
  unfold offW
  rw [List.take_succ_eq_append_getElem h, List.map_append, List.sum_append, List.getD_eq_getElem?_getD, List.getElem?_eq_getElem h]
  simp
/-- The state that the inputs from base on carry. -/
def stIn (ws : List Int) (base : Nat) (inp : Nat → Bool) : PS := ⟨(List.range ws.length).map (fun i => rdB inp (base + offW ws i) (ws.getD i 0).toNat), inp (base + offW ws ws.length)⟩
theorem stIn_at (ws : List Int) (base : Nat) (inp : Nat → Bool) (i : Nat) (h : i < ws.length) : (stIn ws base inp).at i = rdB inp (base + offW ws i) (ws.getD i 0).toNat := by
  simp [stIn, PS.at, List.getD_eq_getElem?_getD, h]
abbrev PinV := Nat × Int × Nat
def pinC (role i : Nat) (w : Nat) : List PinV := (List.range w).map (fun b => (role, (i : Int), b))
/-- The pins of the first k cells. -/
def pinK (role : Nat) (ws : List Int) (k : Nat) : List PinV := (List.range k).flatMap (fun i => pinC role i (ws.getD i 0).toNat)
def pinL (role : Nat) (ws : List Int) : List PinV := pinK role ws ws.length ++ [(role, -1, 0)]
theorem pinC_len (role i w : Nat) : (pinC role i w).length = w := by simp [pinC]
theorem pinC_succ (role i w : Nat) : pinC role i (w + 1) = pinC role i w ++ [(role, (i : Int), w)] := by simp [pinC, List.range_succ]
theorem pinK_succ (role : Nat) (ws : List Int) (k : Nat) : pinK role ws (k + 1) = pinK role ws k ++ pinC role k (ws.getD k 0).toNat := by simp [pinK, List.range_succ, List.flatMap_append]
theorem pinK_len (role : Nat) (ws : List Int) : ∀ k, k ≤ ws.length → (pinK role ws k).length = offW ws k
  | 0, _ => by simp [pinK, offW]
  | k + 1, h => by rw [pinK_succ, List.length_append, pinC_len, pinK_len role ws k (by omega), offW_succ ws k (by omega)]
theorem pinL_len (role : Nat) (ws : List Int) : (pinL role ws).length = offW ws ws.length + 1 := by simp [pinL, pinK_len]
theorem pinK_get (role : Nat) (ws : List Int) : ∀ k, k ≤ ws.length → ∀ i b, i < k → b < (ws.getD i 0).toNat → (pinK role ws k)[offW ws i + b]? = some (role, (i : Int), b)
  | k + 1, h, i, b, hi, hb => by
    rw [pinK_succ]
    by_cases e : i = k
    · subst e
      rw [List.getElem?_append_right (by rw [pinK_len role ws i (by omega)]; omega), pinK_len role ws i (by omega), Nat.add_sub_cancel_left]
      rw [pinC, List.getElem?_map, List.getElem?_range hb]
      rfl
    · have h9 := pinK_get role ws k (by omega) i b (by omega) hb
      rw [List.getElem?_append_left (List.getElem?_eq_some_iff.1 h9).1]
      exact h9
theorem pinL_get (role : Nat) (ws : List Int) {i b : Nat} (hi : i < ws.length) (hb : b < (ws.getD i 0).toNat) : (pinL role ws)[offW ws i + b]? = some (role, (i : Int), b) := by
  have h9 := pinK_get role ws ws.length (Nat.le_refl _) i b hi hb
  rw [pinL, List.getElem?_append_left (List.getElem?_eq_some_iff.1 h9).1]
  exact h9
theorem pinL_last (role : Nat) (ws : List Int) : (pinL role ws)[offW ws ws.length]? = some (role, -1, 0) := by
  rw [pinL, List.getElem?_append_right (by rw [pinK_len role ws _ (Nat.le_refl _)]; omega), pinK_len role ws _ (Nat.le_refl _)]
  simp
/-- The bit of two states that a pin names. -/
def pinB (cur next : PS) (p : PinV) : Bool := if p.2.1 = -1 then (if p.1 = 1 then next else cur).fault else ((if p.1 = 1 then next else cur).at p.2.1.toNat).testBit p.2.2
/-- All pins: those of the state before, then those of the state behind. -/
def pinAll (ws wn : List Int) : List PinV := pinL 0 ws ++ pinL 1 wn
theorem pinAll_len (ws wn : List Int) : (pinAll ws wn).length = offW ws ws.length + 1 + (offW wn wn.length + 1) := by simp [pinAll, pinL_len]
theorem ps_ext {S T : PS} (h1 : S.cells.length = T.cells.length) (h2 : ∀ i < S.cells.length, S.at i = T.at i) (h3 : S.fault = T.fault) : S = T := by
  cases S; cases T
  simp only [PS.at] at *
  congr 1
  apply List.ext_getElem h1
  intro i a b
  have := h2 i a
  rwa [List.getD_eq_getElem?_getD, List.getD_eq_getElem?_getD, List.getElem?_eq_getElem a, List.getElem?_eq_getElem b] at this
/-- The inputs that two states are laid out on carry the first. -/
theorem stIn_cur {ws wn : List Int} {cur next : PS} (hc : StOK ws cur) : stIn ws 0 (inpF ((pinAll ws wn).map (pinB cur next))) = cur := by
  have key : ∀ (j : Nat) (p : PinV), (pinL 0 ws)[j]? = some p → inpF ((pinAll ws wn).map (pinB cur next)) j = pinB cur next p := fun j p h => by
    have : (pinAll ws wn)[j]? = some p := by rw [pinAll, List.getElem?_append_left (List.getElem?_eq_some_iff.1 h).1]; exact h
    simp [inpF, List.getD_eq_getElem?_getD, List.getElem?_map, this]
  refine ps_ext (by simp [stIn, hc.1]) (fun i hi => ?_) ?_
  · have hi2 : i < ws.length := by simpa [stIn] using hi
    rw [stIn_at _ _ _ _ hi2]
    refine rdB_eq (hc.2 i hi2) (fun b hb => ?_)
    rw [Nat.zero_add, key _ _ (pinL_get 0 ws hi2 hb)]
    have : ¬ ((i : Int) = -1) := by omega
    simp [pinB, this]
  · show inpF _ (0 + offW ws ws.length) = _
    rw [Nat.zero_add, key _ _ (pinL_last 0 ws)]
    simp [pinB]
theorem stIn_next {ws wn : List Int} {cur next nx : PS} (hn : StOK wn nx) (hf : nx.fault = next.fault) (ha : ∀ i < wn.length, 0 < (wn.getD i 0).toNat → nx.at i = next.at i) : stIn wn (offW ws ws.length + 1) (inpF ((pinAll ws wn).map (pinB cur next))) = nx := by
  have key : ∀ (j : Nat) (p : PinV), (pinL 1 wn)[j]? = some p → inpF ((pinAll ws wn).map (pinB cur next)) (offW ws ws.length + 1 + j) = pinB cur next p := fun j p h => by
    have : (pinAll ws wn)[offW ws ws.length + 1 + j]? = some p := by
      rw [pinAll, List.getElem?_append_right (by rw [pinL_len]; omega), pinL_len, Nat.add_sub_cancel_left]; exact h
    simp [inpF, List.getD_eq_getElem?_getD, List.getElem?_map, this]
  refine ps_ext (by simp [stIn, hn.1]) (fun i hi => ?_) ?_
  · have hi2 : i < wn.length := by simpa [stIn] using hi
    rw [stIn_at _ _ _ _ hi2]
    refine rdB_eq (hn.2 i hi2) (fun b hb => ?_)
    rw [Nat.add_assoc, key _ _ (pinL_get 1 wn hi2 hb), ha i hi2 (by omega)]
    have : ¬ ((i : Int) = -1) := by omega
    simp [pinB, this]
  · show inpF _ (offW ws ws.length + 1 + offW wn wn.length) = _
    rw [key _ _ (pinL_last 1 wn)]
    simp [pinB, hf]
end Go.Proofs.Qxb6500772a
