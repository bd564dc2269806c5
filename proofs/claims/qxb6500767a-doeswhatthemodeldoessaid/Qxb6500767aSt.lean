/- Strings: the byte order, the hash. -/
import Derived.Test.Qxb6500767aRows
import Derived.Test.Qxb6500767aMem
import Derived.Deep.CutRange
namespace Go.Proofs.Qxb6500767a
open Go.RowKit Go.Qm
set_option linter.unusedVariables false
set_option linter.unusedSimpArgs false
attribute [local go_sem ↓] Go.wp_at_zero Go.wp_at_succ

/-- The byte order. -/
def lessB : List UInt8 → List UInt8 → Bool
  | [], [] => false
  | [], _ :: _ => true
  | _ :: _, [] => false
  | a :: l, b :: m => if a = b then lessB l m else decide (a.toNat < b.toNat)
theorem lessB_drop : ∀ (k : Nat) (l m : List UInt8), l.take k = m.take k → k ≤ l.length → k ≤ m.length → lessB l m = lessB (l.drop k) (m.drop k)
  | 0, l, m, _, _, _ => rfl
  | k + 1, [], m, _, h, _ => by simp at h
  | k + 1, a :: l, [], _, _, h => by simp at h
  | k + 1, a :: l, b :: m, h, h1, h2 => by
    simp only [List.take_succ_cons, List.cons.injEq] at h
    obtain ⟨rfl, h⟩ := h
    simp only [List.drop_succ_cons]
    rw [lessB, if_pos rfl]
    exact lessB_drop k l m h (by simpa using h1) (by simpa using h2)
theorem lessB_at {l m : List UInt8} {k : Nat} (h : l.take k = m.take k) (h1 : k < l.length) (h2 : k < m.length) (hne : l[k] ≠ m[k]) : lessB l m = decide (l[k].toNat < m[k].toNat) := by
  rw [lessB_drop k l m h (by omega) (by omega), List.drop_eq_getElem_cons h1, List.drop_eq_getElem_cons h2, lessB, if_neg hne]
theorem lessB_end {l m : List UInt8} {k : Nat} (h : l.take k = m.take k) (h1 : k ≤ l.length) (h2 : k ≤ m.length) (he : k = l.length ∨ k = m.length) : lessB l m = decide (l.length < m.length) := by
  rw [lessB_drop k l m h h1 h2]
  rcases Nat.lt_or_ge k l.length with a | a <;> rcases Nat.lt_or_ge k m.length with b | b
  · omega
  · rw [List.drop_eq_getElem_cons a, List.drop_of_length_le b, lessB, decide_eq_false (by omega)]
  · rw [List.drop_of_length_le a, List.drop_eq_getElem_cons b, lessB, decide_eq_true (by omega)]
  · rw [List.drop_of_length_le a, List.drop_of_length_le b, lessB, decide_eq_false (by omega)]
theorem take_next {l m : List UInt8} {k : Nat} (h : l.take k = m.take k) (h1 : k < l.length) (h2 : k < m.length) (he : l[k] = m[k]) : l.take (k + 1) = m.take (k + 1) := by
  rw [List.take_succ_eq_append_getElem h1, List.take_succ_eq_append_getElem h2, h, he]
abbrev str (l : List UInt8) : Value := .string ⟨l.toArray⟩
theorem str_get (l : List UInt8) (k : Nat) (h : k < (ByteArray.mk l.toArray).size) : (ByteArray.mk l.toArray)[k]'h = l[k]'(by simpa [ByteArray.size] using h) := rfl
attribute [go_sem] str_get
set_option maxHeartbeats 1000000 in
theorem less_c (l m : List UInt8) (w : World) (hl : l.length ≤ 1000000) (hm : m.length ≤ 1000000) : Calls Try.prog 30 #[str l, str m] w fun e w' => e = .returned (.bool (lessB l m)) ∧ Keep w w' := by
  go_enter Try.func30, Try.ntmps30
  go_wp2_with fail
  go_loopw [5] (fun iv wr => ∃ k : Nat, k ≤ l.length ∧ k ≤ m.length ∧ l.take k = m.take k ∧ iv = .int .i64 k ∧ Keep w wr) (fun i _ => l.length - (intOf i).toNat)
  case atStart => exact ⟨0, by omega, by omega, rfl, rfl, Keep.refl _⟩
  case round =>
    obtain ⟨k, h1, h2, heq, rfl, kw⟩ := hrel
    have HEQ := Hid.mk heq
    clear heq
    by_cases hl1 : k < l.length
    · by_cases hm1 : k < m.length
      · have i1 : (k : Int) < l.length := by omega
        have i2 : (k : Int) < m.length := by omega
        have LAT := fun hne => lessB_at HEQ.out hl1 hm1 hne
        by_cases he : l[k] = m[k]
        · have hb : (((l[k].toNat : Nat) : Int) != ((m[k].toNat : Nat) : Int)) = false := by simp [he]
          clear LAT
          go_wp2_with fail
          go_quiet (fail)
          go_wp2_with fail
          go_roundw
          case rel => exact ⟨k + 1, by omega, by omega, take_next HEQ.out hl1 hm1 he, by go_num, kw.drewN _⟩
          case measure => simp [intOf]; omega
        · have hb : (((l[k].toNat : Nat) : Int) != ((m[k].toNat : Nat) : Int)) = true := by
            simp only [bne_iff_ne, ne_eq]
            intro e
            exact he (UInt8.toNat_inj.1 (by omega))
          replace LAT := Hid.mk (LAT he)
          clear he
          go_wp2_with fail
          go_quiet (fail)
          go_wp2_with fail
          have kq := kw.drewN nq
          generalize wr.drewN nq = w4 at *
          go_quiet (fail)
          go_wp2_with fail
          go_ret
          refine ⟨?_, kq.drewN _⟩
          rw [LAT.out]
          simp only [Int.ofNat_lt]
          rfl
      · have i1 : (k : Int) < l.length := by omega
        have i2 : ¬ (k : Int) < m.length := by omega
        have EE := Hid.mk (lessB_end (l := l) (m := m) (k := k) HEQ.out (by omega) (by omega) (by omega))
        go_wp2_with fail
        all_goals go_ret
        all_goals refine ⟨?_, kw⟩
        all_goals rw [EE.out]
        all_goals simp only [Int.ofNat_lt]
        all_goals rfl
    · have i1 : ¬ (k : Int) < l.length := by omega
      have EE := Hid.mk (lessB_end (l := l) (m := m) (k := k) HEQ.out (by omega) (by omega) (by omega))
      go_wp2_with fail
      all_goals go_ret
      all_goals refine ⟨?_, kw⟩
      all_goals rw [EE.out]
      all_goals simp only [Int.ofNat_lt]
      all_goals rfl
end Go.Proofs.Qxb6500767a
