/- interpm: a state in memory; the statements keep the widths (plain). -/
import Derived.Test.Qxb6500772aUk
import Derived.Test.Qxb6500772aTi
namespace Go.Proofs.Qxb6500772a
open Go.RowKit Go.Qm
set_option linter.unusedVariables false
set_option linter.unusedSimpArgs false
theorem PS.put_ok {ws : List Int} {S : PS} (h : StOK ws S) {i v : Nat} (hi : i < ws.length → v < 2 ^ (ws.getD i 0).toNat) : StOK ws (S.put i v) := by
  refine ⟨by simp [PS.put, h.1], fun j hj => ?_⟩
  simp only [PS.put]
  rw [List.getD_eq_getElem?_getD, List.getElem?_set]
  by_cases e : i = j
  · subst e
    have : i < S.cells.length := by rw [h.1]; exact hj
    have h2 := hi hj
    rw [List.getD_eq_getElem?_getD] at h2
    simp [this]
    exact h2
  · simp only [e, if_false]
    have := h.2 j hj
    rwa [List.getD_eq_getElem?_getD] at this
theorem flt_ok {ws : List Int} {S : PS} (h : StOK ws S) (b : Bool) : StOK ws ⟨S.cells, b⟩ := h
theorem kws_lt {ws : List Int} {S : PS} (hS : StOK ws S) {t : EL} (ht : wtL ws t) {l : List Int} (hl : t.ws = l) (i : Nat) (hi : i < l.length) : 1 ≤ l.getD i 0 ∧ l.getD i 0 ≤ 64 ∧ kv (evL t S) i < 2 ^ (l.getD i 0).toNat := by
  have := evL_lt hS ht i (by have := ws_len t; rw [hl] at this; unfold EL.len at this; omega)
  rw [hl] at this
  exact this
theorem max_lt {w : Nat} (h : 1 ≤ w) : (2 ^ w - 1) / 2 < 2 ^ w := by
  have := Nat.two_pow_pos w
  omega
theorem exOne_ok {ws : List Int} {f : SF} {ex : EL} {T E : PS → PS} {TP EP : Prop} {nt nl : Nat} {S : PS} (hW : WsOK ws) (hex : wtL ws ex) (h : wtS1 ws f ex.ws TP EP nt nl) (hT : TP → ∀ S, StOK ws S → StOK ws (T S)) (hE : EP → ∀ S, StOK ws S → StOK ws (E S)) (hS : StOK ws S) : StOK ws (exOne ws f (evL ex S) ex.ws T E S) := by
  have hS' : StOK ws ⟨S.cells, S.fault || anyF (evL ex S)⟩ := flt_ok hS _
  rcases h with ⟨k, a, e, hc⟩ | ⟨k, a, b, e, hc⟩ | ⟨k, e, hT', hE'⟩ | ⟨k, e, hc, hT'⟩ | ⟨k, e, hc⟩ | ⟨k, a, e, hc, hc2⟩ | ⟨k, a, e, hc, hc2, hc3⟩
  · have h0 := kws_lt hS hex e 0 (by simp)
    simp only [List.getD_cons_zero] at h0
    simp only [exOne, k, if_true]
    obtain ⟨c0, c1, c2, c3⟩ := hc
    have c4 := c3 0 (by decide)
    simp only [Nat.add_zero] at c4
    exact PS.put_ok hS' (fun _ => by rw [c4]; exact h0.2.2)
  · have h1 := kws_lt hS hex e 1 (by simp)
    simp only [List.getD_cons_zero, List.getD_cons_succ] at h1
    simp only [exOne, k]
    obtain ⟨c0, c1, c2, c3⟩ := hc
    simp only [show ((1 : Int) = 0) = False by simp, if_false, if_true]
    split
    · exact hS'
    · rename_i hh
      have e1 : (f.c + sgn (kv (evL ex S) 0) (kw ex.ws 0)).toNat = f.c.toNat + (sgn (kv (evL ex S) 0) (kw ex.ws 0)).toNat := by omega
      refine PS.put_ok hS' (fun _ => ?_)
      rw [e1, c3 _ (by omega)]
      exact h1.2.2
  · simp only [exOne, k]
    simp only [show ((2 : Int) = 0) = False by simp, show ((2 : Int) = 1) = False by simp, if_false, if_true]
    split
    · exact hT hT' _ hS'
    · exact hE hE' _ hS'
  · simp only [exOne, k]
    simp only [show ((3 : Int) = 0) = False by simp, show ((3 : Int) = 1) = False by simp, show ((3 : Int) = 2) = False by simp, if_false, if_true]
    obtain ⟨c0, c1, c2, c3⟩ := hc
    generalize List.range (itN f.a f.b) = l
    generalize (⟨S.cells, S.fault || anyF (evL ex S)⟩ : PS) = S0 at *
    clear hS
    induction l generalizing S0 with
    | nil => exact hS'
    | cons x l ih =>
      rw [List.foldl_cons]
      refine ih _ (hT hT' _ (PS.put_ok hS' (fun _ => ?_)))
      have hm : ∀ (z : Int) (w : Nat), (z % 2 ^ w).toNat < 2 ^ w := fun z w => by
        have h0 := Nat.two_pow_pos w
        have hc : ((2 ^ w : Nat) : Int) = (2 : Int) ^ w := by push_cast; rfl
        rw [← hc]
        have h2 := Int.emod_lt_of_pos z (b := ((2 ^ w : Nat) : Int)) (by omega)
        have h3 := Int.emod_nonneg z (b := ((2 ^ w : Nat) : Int)) (by omega)
        omega
      exact hm _ _
  · have h0 := kws_lt hS hex e 0 (by simp)
    simp only [List.getD_cons_zero] at h0
    simp only [exOne, k]
    simp only [show ((4 : Int) = 0) = False by simp, show ((4 : Int) = 1) = False by simp, show ((4 : Int) = 2) = False by simp, show ((4 : Int) = 3) = False by simp, if_false, if_true]
    obtain ⟨c0, c1, c2, c3⟩ := hc
    have c4 := c3 0 (by decide)
    have c5 := c3 1 (by decide)
    simp only [Nat.add_zero] at c4
    refine PS.put_ok (PS.put_ok hS' (fun _ => ?_)) (fun _ => ?_)
    · rw [c4]; exact toNat_lt (by decide)
    · rw [c5]; exact h0.2.2
  · have h1 := kws_lt hS hex e 1 (by simp)
    simp only [List.getD_cons_zero, List.getD_cons_succ] at h1
    have hk : kw ex.ws 1 = a.toNat := by rw [e]; rfl
    simp only [exOne, k]
    simp only [show ((5 : Int) = 0) = False by simp, show ((5 : Int) = 1) = False by simp, show ((5 : Int) = 2) = False by simp, show ((5 : Int) = 3) = False by simp, show ((5 : Int) = 4) = False by simp, if_false, if_true, hk]
    obtain ⟨c0, c1, c2, c3⟩ := hc
    obtain ⟨b0, b1, b2, b3⟩ := hc2
    have c4 := c3 0 (by decide)
    have c5 := b3 0 (by decide)
    simp only [Nat.add_zero] at c4 c5
    rw [show (f.c + 1).toNat = f.c.toNat + 1 by omega] at c5
    have ha : 1 ≤ a.toNat := by omega
    have ht : tonT (PS.at ⟨S.cells, S.fault || anyF (evL ex S)⟩ (f.c.toNat + 1)) (kv (evL ex S) 2) a.toNat < 2 ^ a.toNat := by
      unfold tonT
      split
      · exact max_lt ha
      · refine wop_lt ha ?_ (by decide)
        have := hS.2 (f.c.toNat + 1) (by omega)
        rw [c5] at this
        exact this
    split
    · refine PS.put_ok (PS.put_ok hS' (fun _ => ?_)) (fun _ => ?_)
      · rw [c4]; decide
      · exact Nat.two_pow_pos _
    · split
      · refine PS.put_ok (PS.put_ok hS' (fun _ => ?_)) (fun _ => ?_)
        · rw [c4]; decide
        · rw [c5]; exact h1.2.2
      · refine PS.put_ok (PS.put_ok hS' (fun _ => ?_)) (fun _ => ?_)
        · rw [c4]; decide
        · rw [c5]; exact ht
  · have h0 := kws_lt hS hex e 0 (by simp)
    have h2 := kws_lt hS hex e 2 (by simp)
    simp only [List.getD_cons_zero, List.getD_cons_succ] at h0 h2
    have hk : kw ex.ws 2 = a.toNat := by rw [e]; rfl
    simp only [exOne, k]
    simp only [show ((6 : Int) = 0) = False by simp, show ((6 : Int) = 1) = False by simp, show ((6 : Int) = 2) = False by simp, show ((6 : Int) = 3) = False by simp, show ((6 : Int) = 4) = False by simp, show ((6 : Int) = 5) = False by simp, if_false, hk]
    obtain ⟨c0, c1, c2, c3⟩ := hc
    obtain ⟨b0, b1, b2, b3⟩ := hc2
    obtain ⟨d0, d1, d2, d3⟩ := hc3
    have c4 := c3 0 (by decide)
    have c5 := b3 0 (by decide)
    have c6 := d3 0 (by decide)
    simp only [Nat.add_zero] at c4 c5 c6
    rw [show (f.c + 1).toNat = f.c.toNat + 1 by omega] at c5
    rw [show (f.c + 2).toNat = f.c.toNat + 2 by omega] at c6
    have ha : 1 ≤ a.toNat := by omega
    have ho : S.cells.getD (f.c.toNat + 1) 0 < 2 ^ a.toNat := by
      have := hS.2 (f.c.toNat + 1) (by omega)
      rw [c5] at this
      exact this
    refine PS.put_ok (PS.put_ok (PS.put_ok hS' (fun _ => ?_)) (fun _ => ?_)) (fun _ => ?_)
    · rw [c4]; exact toNat_lt (by decide)
    · rw [c5]
      refine ite_lt (fun _ => Nat.two_pow_pos _) (fun _ => ite_lt (fun _ => wop_lt ha ho (by decide)) (fun _ => ho))
    · rw [c6]; exact h0.2.2
theorem exL_ok {ws : List Int} (hW : WsOK ws) : ∀ {t : SL}, wtS ws t → ∀ {S : PS}, StOK ws S → StOK ws (exL ws t S)
  | .nil, _, S, h => h
  | .cons f ex th el r, hw, S, h => by
    obtain ⟨h1, h2, h3⟩ := hw
    exact exL_ok hW h3 (exOne_ok hW h1 h2 (fun hT S hS => exL_ok hW hT hS) (fun hE S hS => exL_ok hW hE hS) h)
end Go.Proofs.Qxb6500772a
