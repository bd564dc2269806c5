/- interpm: values fit their widths (plain); the contract of Eval. -/
import Derived.Test.Qxb6500772aTc
import Derived.Test.Qxb6500772aCk
namespace Go.Proofs.Qxb6500772a
open Go.RowKit Go.Qm
set_option linter.unusedVariables false
set_option linter.unusedSimpArgs false
def WsOK (ws : List Int) : Prop := ∀ a ∈ ws, 1 ≤ a ∧ a ≤ 64
theorem evL_len : ∀ (t : EL) (S : PS), (evL t S).length = t.toL.length
  | .nil, _ => rfl
  | .cons f k r, S => by simp [evL, EL.toL, evL_len r S]
theorem evL_get : ∀ (t : EL) (S : PS) (i : Nat) (h : i < t.toL.length), (evL t S).getD i (0, false) = evOne t.toL[i].1 (evL t.toL[i].2 S) t.toL[i].2.ws S
  | .nil, _, i, h => by simp [EL.toL] at h
  | .cons f k r, S, 0, h => rfl
  | .cons f k r, S, i + 1, h => by
    have := evL_get r S i (by simpa [EL.toL] using h)
    simpa [evL, EL.toL] using this
theorem ws_get (t : EL) (i : Nat) (h : i < t.toL.length) : t.ws.getD i 0 = t.toL[i].1.w := by simp [EL.ws, List.getD_eq_getElem?_getD, h]
theorem one_lt_pow {w : Nat} (h : 1 ≤ w) : 1 < 2 ^ w := Nat.one_lt_two_pow (by omega)
theorem toNat_lt {b : Bool} {w : Nat} (h : 1 ≤ w) : b.toNat < 2 ^ w := by
  have := one_lt_pow h
  cases b <;> simp <;> omega
theorem unF_lt {op : Int} {x k w : Nat} (hw : 1 ≤ w) (hx : x < 2 ^ k) (h : op = 3 → k ≤ w) (hop : 0 ≤ op) (hop4 : op ≤ 4) : unF op x k w < 2 ^ w := by
  have h0 := Nat.two_pow_pos w
  have hm : ∀ z : Int, (z % 2 ^ w).toNat < 2 ^ w := fun z => by
    have hc : ((2 ^ w : Nat) : Int) = (2 : Int) ^ w := by push_cast; rfl
    rw [← hc]
    have h2 := Int.emod_lt_of_pos z (b := ((2 ^ w : Nat) : Int)) (by omega)
    have h3 := Int.emod_nonneg z (b := ((2 ^ w : Nat) : Int)) (by omega)
    omega
  unfold unF
  split
  · omega
  split
  · exact wop_lt hw h0 (by decide)
  split
  · exact hm _
  split
  · rename_i e; exact Nat.lt_of_lt_of_le hx (Nat.pow_le_pow_right (by decide) (h e))
  · exact Nat.mod_lt _ h0
theorem ite_lt {c : Prop} [Decidable c] {a b m : Nat} (h1 : c → a < m) (h2 : ¬ c → b < m) : (if c then a else b) < m := by
  by_cases h : c
  · rw [if_pos h]; exact h1 h
  · rw [if_neg h]; exact h2 h
theorem binF_lt {op : Int} {x y a w : Nat} (ha : 1 ≤ a) (hx : x < 2 ^ a) (hy : y < 2 ^ a) (h1 : 5 ≤ op ∧ op ≤ 12 → w = a) (h2 : 1 ≤ w) : binF op x y a < 2 ^ w ∨ ¬ (5 ≤ op) := by
  by_cases h5 : 5 ≤ op
  · refine Or.inl ?_
    unfold binF
    exact ite_lt (fun e => by rw [h1 (by omega)]; exact Nat.lt_of_le_of_lt Nat.and_le_left hx) (fun _ => ite_lt (fun e => by rw [h1 (by omega)]; exact Nat.or_lt_two_pow hx hy) (fun _ => ite_lt (fun e => by rw [h1 (by omega)]; exact Nat.xor_lt_two_pow hx hy) (fun _ => ite_lt (fun e => by rw [h1 (by omega)]; exact wop_lt ha hx (by decide)) (fun _ => ite_lt (fun e => by rw [h1 (by omega)]; exact wop_lt ha hx (by decide)) (fun _ => ite_lt (fun e => by rw [h1 (by omega)]; exact wop_lt ha hx (by decide)) (fun _ => ite_lt (fun e => by rw [h1 (by omega)]; exact ite_lt (fun _ => Nat.two_pow_pos _) (fun _ => wop_lt ha hx (by decide))) (fun _ => ite_lt (fun e => by rw [h1 (by omega)]; exact ite_lt (fun _ => Nat.two_pow_pos _) (fun _ => wop_lt ha hx (by decide))) (fun _ => ite_lt (fun e => toNat_lt h2) (fun _ => ite_lt (fun e => toNat_lt h2) (fun _ => ite_lt (fun e => toNat_lt h2) (fun _ => ite_lt (fun e => toNat_lt h2) (fun _ => ite_lt (fun e => toNat_lt h2) (fun _ => toNat_lt h2)))))))))))))
  · exact Or.inr h5
theorem st_get {ws : List Int} {S : PS} (h : StOK ws S) {i : Nat} (hi : i < ws.length) {a : Int} (ha : ws.getD i 0 = a) : S.cells.getD i 0 < 2 ^ a.toNat := by rw [← ha]; exact h.2 i hi
theorem evOne_lt {ws : List Int} {f : EF} {ks : List VF} {kws : List Int} {S : PS} (hw : wtOne ws f kws) (hS : StOK ws S) (hk : ∀ i, i < kws.length → 1 ≤ kws.getD i 0 ∧ kv ks i < 2 ^ kw kws i) : (evOne f ks kws S).1 < 2 ^ f.w.toNat := by
  obtain ⟨⟨w1, w2⟩, h⟩ := hw
  have h0 := Nat.two_pow_pos f.w.toNat
  rcases h with ⟨k, _, hv⟩ | ⟨k, _, hc⟩ | ⟨k, _, hf⟩ | ⟨k, ⟨a, e⟩, hc⟩ | ⟨k, a, e, hu⟩ | ⟨k, a, e, hb⟩ | ⟨k, e⟩
  · simp [evOne, k, hv]
  · simp only [evOne, k]
    obtain ⟨c0, c1, c2, c3⟩ := hc
    have := st_get hS (i := f.c.toNat) (by omega) (c3 0 (by decide))
    simpa using this
  · simp only [evOne, k]
    exact toNat_lt (by omega)
  · subst e
    simp only [evOne, k]
    obtain ⟨c0, c1, c2, c3⟩ := hc
    simp only [show ((3 : Int) = 0) = False by simp, show ((3 : Int) = 1) = False by simp, show ((3 : Int) = 2) = False by simp, if_false, if_true]
    split
    · exact h0
    · rename_i hh
      have h1 : ((f.c + sgn (kv ks 0) (kw [a] 0)).toNat) = f.c.toNat + (sgn (kv ks 0) (kw [a] 0)).toNat := by omega
      rw [h1]
      exact st_get hS (by omega) (c3 (sgn (kv ks 0) (kw [a] 0)).toNat (by omega))
  · subst e
    have := hk 0 (by simp)
    simp only [List.getD_cons_zero] at this
    simp only [evOne, k]
    simp only [show ((4 : Int) = 0) = False by simp, show ((4 : Int) = 1) = False by simp, show ((4 : Int) = 2) = False by simp, show ((4 : Int) = 3) = False by simp, if_false, if_true]
    refine unF_lt (by omega) this.2 (fun e => ?_) (by omega) (by omega)
    simp only [kw, List.getD_cons_zero]
    omega
  · subst e
    have h1 := hk 0 (by simp)
    have h2 := hk 1 (by simp)
    simp only [kw, List.getD_cons_zero, List.getD_cons_succ] at h1 h2
    simp only [evOne, k]
    simp only [show ((5 : Int) = 0) = False by simp, show ((5 : Int) = 1) = False by simp, show ((5 : Int) = 2) = False by simp, show ((5 : Int) = 3) = False by simp, show ((5 : Int) = 4) = False by simp, show ((5 : Int) = 6) = False by simp, if_false]
    rcases binF_lt (op := f.o) (w := f.w.toNat) (a := a.toNat) (by omega) h1.2 h2.2 (fun e => by omega) (by omega) with r | r
    · simpa [kw] using r
    · omega
  · subst e
    have h1 := hk 1 (by simp)
    have h2 := hk 2 (by simp)
    simp only [kw, List.getD_cons_zero, List.getD_cons_succ] at h1 h2
    simp only [evOne, k]
    simp only [show ((6 : Int) = 0) = False by simp, show ((6 : Int) = 1) = False by simp, show ((6 : Int) = 2) = False by simp, show ((6 : Int) = 3) = False by simp, show ((6 : Int) = 4) = False by simp, if_false, if_true]
    split
    · exact h1.2
    · exact h2.2
theorem evL_lt {ws : List Int} {S : PS} (hS : StOK ws S) : ∀ {t : EL}, wtL ws t → ∀ i, i < t.toL.length → 1 ≤ t.ws.getD i 0 ∧ t.ws.getD i 0 ≤ 64 ∧ kv (evL t S) i < 2 ^ kw t.ws i
  | .nil, _, i, h => by simp [EL.toL] at h
  | .cons f k r, hw, i, h => by
    obtain ⟨h1, h2, h3⟩ := hw
    cases i with
    | zero =>
      refine ⟨h2.1.1, h2.1.2, ?_⟩
      have := evOne_lt h2 hS (ks := evL k S) (fun j hj => by
        have hj' : j < k.toL.length := by simpa [EL.ws] using hj
        have := evL_lt hS h1 j hj'
        exact ⟨this.1, this.2.2⟩)
      exact this
    | succ i =>
      have := evL_lt hS h3 i (by simpa [EL.toL] using h)
      exact this
/-- The contract of Eval. -/
def EvC (P : Nat → Prop) (ws : List Int) (f : EF) (t : EL) : Prop :=
  ∀ (w : World) (v : Value) (rows : List (List Value)) (sv : Value) (S : PS), EFr f → Rows P w v 7 rows → ELW P w t rows → wtL ws t → wtOne ws f t.ws → Vs w sv S.cells → StOK ws S →
    Calls Try.prog 36 #[efA f v, .agg #[sv, .bool S.fault]] w fun e w' => e = .returned (.tuple #[.int .u64 (((evOne f (evL t S) t.ws S).1 : Nat) : Int), .bool (evOne f (evL t S) t.ws S).2]) ∧ Keep w w'
end Go.Proofs.Qxb6500772a
