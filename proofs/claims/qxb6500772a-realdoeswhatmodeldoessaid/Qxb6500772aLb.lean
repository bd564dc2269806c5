/- blastlaw: small things that the laws need. -/
import Derived.Test.Qxb6500772aIc
import Derived.Test.Qxb6500772aHh
import Derived.Test.Qxb6500772aHg
import Derived.Test.Qxb6500772aScript
namespace Go.Proofs.Qxb6500772a
open Go Go.RowKit Go.Qm
set_option linter.unusedVariables false
set_option linter.unusedSimpArgs false
attribute [local go_sem ↓] Go.wp_at_zero Go.wp_at_succ
theorem small_c {w : World} {v : Value} {sc : List OpR} (h : Script w v sc) : Calls Try.prog 6 #[v] w fun e w' => e = .returned (.bool (decide (sc.length ≤ 65536))) ∧ w' = w := by
  obtain ⟨a, c, rfl, h1, h2, -⟩ := h
  unfold maxLen at h2
  by_cases hb : (65536 : Int) < (sc.length : Int)
  · have e1 : decide (sc.length ≤ 65536) = false := by simp; omega
    have HE := Hid.mk e1
    clear e1 h1 h2
    go_enter Try.func6, Try.ntmps6
    go_wp2_with fail
    go_ret
    exact ⟨by rw [HE.out]; rfl, rfl⟩
  · have e1 : decide (sc.length ≤ 65536) = true := by simp; omega
    have HE := Hid.mk e1
    clear e1 h1 h2
    go_enter Try.func6, Try.ntmps6
    go_wp2_with fail
    go_ret
    exact ⟨by rw [HE.out]; rfl, rfl⟩
theorem pinL_ok {role N : Nat} {ws : List Int} (hr : role = 0 ∨ role = 1) (hl : ws.length = N) (hw : ∀ a ∈ ws, a ≤ 64) : ∀ p ∈ pinL role ws, PinOK N p := by
  intro p hp
  unfold pinL at hp
  rcases List.mem_append.1 hp with h | h
  · unfold pinK at h
    obtain ⟨i, hi, h2⟩ := List.mem_flatMap.1 h
    unfold pinC at h2
    obtain ⟨b, hb, rfl⟩ := List.mem_map.1 h2
    have hi' := List.mem_range.1 hi
    have hb' := List.mem_range.1 hb
    refine ⟨hr, Or.inr ⟨i, rfl, by omega, ?_⟩⟩
    have h64 : ws.getD i 0 ≤ 64 := by
      rw [List.getD_eq_getElem?_getD, List.getElem?_eq_getElem hi']
      exact hw _ (List.getElem_mem hi')
    show b < 64
    omega
  · rw [List.mem_singleton.1 h]
    exact ⟨hr, Or.inl rfl⟩
theorem offW_64 (ws : List Int) (hw : ∀ a ∈ ws, a ≤ 64) : ∀ i, i ≤ ws.length → offW ws i ≤ 64 * i
  | 0, _ => by simp [offW]
  | i + 1, h => by
    have h1 := offW_64 ws hw i (by omega)
    have h64 : ws.getD i 0 ≤ 64 := by
      rw [List.getD_eq_getElem?_getD, List.getElem?_eq_getElem (by omega : i < ws.length)]
      exact hw _ (List.getElem_mem _)
    rw [offW_succ ws i (by omega)]
    omega
theorem OKP.cw {cels : List Cel} {body : SL} {f : EF} {t : EL} (h : OKP cels body f t) : (∀ a ∈ cwOf cels, a ≤ 64) ∧ (∀ a ∈ cnOf cels, a ≤ 64) := by
  constructor
  · intro a ha
    obtain ⟨c, hc, rfl⟩ := List.mem_map.1 ha
    exact (h.ce c hc).w2
  · intro a ha
    obtain ⟨c, hc, rfl⟩ := List.mem_map.1 ha
    have := (h.ce c hc).w2
    split <;> omega
theorem pins_ok {cels : List Cel} {body : SL} {f : EF} {t : EL} (h : OKP cels body f t) : (∀ p ∈ pinAll (cwOf cels) (cnOf cels), PinOK cels.length p) ∧ (pinAll (cwOf cels) (cnOf cels)).length ≤ 100000 := by
  obtain ⟨h1, h2⟩ := h.cw
  have l1 : (cwOf cels).length = cels.length := by simp [cwOf]
  have l2 : (cnOf cels).length = cels.length := by simp [cnOf]
  constructor
  · intro p hp
    rcases List.mem_append.1 hp with a | a
    · exact pinL_ok (Or.inl rfl) l1 h1 p a
    · exact pinL_ok (Or.inr rfl) l2 h2 p a
  · rw [pinAll_len]
    have a1 := offW_64 _ h1 _ (Nat.le_refl _)
    have a2 := offW_64 _ h2 _ (Nat.le_refl _)
    have := h.cl
    omega
theorem StOK.lt64 {ws : List Int} {S : PS} (h : StOK ws S) (hw : ∀ a ∈ ws, a ≤ 64) : ∀ x ∈ S.cells, x < 2 ^ 64 := by
  intro x hx
  obtain ⟨i, hi, rfl⟩ := List.mem_iff_getElem.1 hx
  have hi2 : i < ws.length := by rw [← h.1]; exact hi
  have h1 := h.2 i hi2
  have h64 : ws.getD i 0 ≤ 64 := by
    rw [List.getD_eq_getElem?_getD, List.getElem?_eq_getElem hi2]
    exact hw _ (List.getElem_mem _)
  rw [List.getD_eq_getElem?_getD, List.getElem?_eq_getElem hi] at h1
  exact Nat.lt_of_lt_of_le h1 (Nat.pow_le_pow_right (by decide) (by omega))
/-- One statement by itself. -/
def one1 (x : SF × EL × SL × SL) : SL := .cons x.1 x.2.1 x.2.2.1 x.2.2.2 .nil
theorem one1_ex (ws : List Int) (x : SF × EL × SL × SL) (S : PS) : exL ws (one1 x) S = exX ws S x := by
  rw [exL_fold]
  rfl
theorem one1_wt {ws : List Int} {t : SL} (h : wtS ws t) {x : SF × EL × SL × SL} (hx : x ∈ t.toL) : wtS ws (one1 x) := by
  have := wtS_mem h x hx
  exact ⟨this.1, this.2, trivial⟩
theorem one1_w {P : Nat → Prop} {w : World} {t : SL} {rows : List (List Value)} (h : SLW P w t rows) {i : Nat} (hi : i < t.toL.length) (hr : i < rows.length) : SLW P w (one1 t.toL[i]) [rows[i]] := by
  obtain ⟨ev, er, tv, tr, lv, lr, e, h0, h1, h2, h3, h4, h5, h6⟩ := h.get i hi hr
  exact ⟨ev, er, tv, tr, lv, lr, [], by rw [e], h0, h1, h2, h3, h4, h5, h6, rfl⟩
theorem one1_r {P : Nat → Prop} {w : World} {b o m c : Nat} {rows : List (List Value)} (h : Rows P w (.slice (some ⟨b, o, none⟩) m c) 8 rows) {i : Nat} (hr : i < rows.length) : Rows P w (.slice (some ⟨b, o + i * 8, none⟩) 1 (c - i)) 8 [rows[i]] := by
  obtain ⟨a', c', e, h1, h2, h3⟩ := h
  injection e with e1 e2 e3
  subst e1 e3
  refine ⟨_, _, rfl, by simp; omega, by omega, fun j hj => ?_⟩
  have hj0 : j = 0 := by simpa using hj
  subst hj0
  obtain ⟨b', o', r1, r2, r3, r4⟩ := h3 i hr
  injection r1 with r1
  injection r1 with r1 r1'
  subst r1 r1'
  exact ⟨b, o + i * 8, rfl, r2, r3, fun k hk => by simpa using r4 k hk⟩
end Go.Proofs.Qxb6500772a
