/- Strings: the byte order, the hash. -/
import Derived.Test.Qxb6500766aRows
import Derived.Test.Qxb6500766aMem
import Derived.Deep.CutRange
namespace Go.Proofs.Qxb6500766a
open Go.RowKit Go.Qm
set_option linter.unusedVariables false
set_option linter.unusedSimpArgs false
attribute [local go_sem ↓] Go.wp_at_zero Go.wp_at_succ

/-- The byte order. -/
def lessB : List UInt8 → List UInt8 → Bool
  | [], [] => false
  | [], _ :: _ => true
  | _ :: _, [] => false
  | a :: l, b :: m => if a = b then lessB l m else decide (a.toNat < b.toNat)
theorem lessB_drop : ∀ (k : Nat) (l m : List UInt8), l.take k = m.take k → k ≤ l.length → k ≤ m.length → lessB l m = lessB (l.drop k) (m.drop k)
  | 0, l, m, _, _, _ => rfl
  | k + 1, [], m, _, h, _ => by simp at h
  | k + 1, a :: l, [], _, _, h => by simp at h
  | k + 1, a :: l, b :: m, h, h1, h2 => by
    simp only [List.take_succ_cons, List.cons.injEq] at h
    obtain ⟨rfl, h⟩ := h
    simp only [List.drop_succ_cons]
    rw [lessB, if_pos rfl]
    exact lessB_drop k l m h (by simpa using h1) (by simpa using h2)
theorem lessB_at {l m : List UInt8} {k : Nat} (h : l.take k = m.take k) (h1 : k < l.length) (h2 : k < m.length) (hne : l[k] ≠ m[k]) : lessB l m = decide (l[k].toNat < m[k].toNat) := by
  rw [lessB_drop k l m h (by omega) (by omega), List.drop_eq_getElem_cons h1, List.drop_eq_getElem_cons h2, lessB, if_neg hne]
theorem lessB_end {l m : List UInt8} {k : Nat} (h : l.take k = m.take k) (h1 : k ≤ l.length) (h2 : k ≤ m.length) (he : k = l.length ∨ k = m.length) : lessB l m = decide (l.length < m.length) := by
  rw [lessB_drop k l m h h1 h2]
  rcases Nat.lt_or_ge k l.length with a | a <;> rcases Nat.lt_or_ge k m.length with b | b
  · omega
  · rw [List.drop_eq_getElem_cons a, List.drop_of_length_le b, lessB, decide_eq_false (by omega)]
  · rw [List.drop_of_length_le a, List.drop_eq_getElem_cons b, lessB, decide_eq_true (by omega)]
  · rw [List.drop_of_length_le a, List.drop_of_length_le b, lessB, decide_eq_false (by omega)]
theorem take_next {l m : List UInt8} {k : Nat} (h : l.take k = m.take k) (h1 : k < l.length) (h2 : k < m.length) (he : l[k] = m[k]) : l.take (k + 1) = m.take (k + 1) := by
  rw [List.take_succ_eq_append_getElem h1, List.take_succ_eq_append_getElem h2, h, he]
abbrev str (l : List UInt8) : Value := .string ⟨l.toArray⟩
theorem str_get (l : List UInt8) (k : Nat) (h : k < (ByteArray.mk l.toArray).size) : (ByteArray.mk l.toArray)[k]'h = l[k]'(by simpa [ByteArray.size] using h) := rfl
attribute [go_sem] str_get
set_option maxHeartbeats 1000000 in
theorem less_c (l m : List UInt8) (w : World) (hl : l.length ≤ 1000000) (hm : m.length ≤ 1000000) : Calls Try.prog 23 #[str l, str m] w fun e w' => e = .returned (.bool (lessB l m)) ∧ Keep w w' := by
  go_enter Try.func23, Try.ntmps23
  go_wp2_with fail
  go_loopw [5] (fun iv wr => ∃ k : Nat, k ≤ l.length ∧ k ≤ m.length ∧ l.take k = m.take k ∧ iv = .int .i64 k ∧ Keep w wr) (fun i _ => l.length - (intOf i).toNat)
  case atStart => exact ⟨0, by omega, by omega, rfl, rfl, Keep.refl _⟩
  case round =>
    obtain ⟨k, h1, h2, heq, rfl, kw⟩ := hrel
    have HEQ := Hid.mk heq
    clear heq
    by_cases hl1 : k < l.length
    · by_cases hm1 : k < m.length
      · have i1 : (k : Int) < l.length := by omega
        have i2 : (k : Int) < m.length := by omega
        have LAT := fun hne => lessB_at HEQ.out hl1 hm1 hne
        by_cases he : l[k] = m[k]
        · have hb : (((l[k].toNat : Nat) : Int) != ((m[k].toNat : Nat) : Int)) = false := by simp [he]
          clear LAT
          go_wp2_with fail
          go_quiet (fail)
          go_wp2_with fail
          go_roundw
          case rel => exact ⟨k + 1, by omega, by omega, take_next HEQ.out hl1 hm1 he, by go_num, kw.drewN _⟩
          case measure => simp [intOf]; omega
        · have hb : (((l[k].toNat : Nat) : Int) != ((m[k].toNat : Nat) : Int)) = true := by
            simp only [bne_iff_ne, ne_eq]
            intro e
            exact he (UInt8.toNat_inj.1 (by omega))
          replace LAT := Hid.mk (LAT he)
          clear he
          go_wp2_with fail
          go_quiet (fail)
          go_wp2_with fail
          have kq := kw.drewN nq
          generalize wr.drewN nq = w4 at *
          go_quiet (fail)
          go_wp2_with fail
          go_ret
          refine ⟨?_, kq.drewN _⟩
          rw [LAT.out]
          simp only [Int.ofNat_lt]
          rfl
      · have i1 : (k : Int) < l.length := by omega
        have i2 : ¬ (k : Int) < m.length := by omega
        have EE := Hid.mk (lessB_end (l := l) (m := m) (k := k) HEQ.out (by omega) (by omega) (by omega))
        go_wp2_with fail
        all_goals go_ret
        all_goals refine ⟨?_, kw⟩
        all_goals rw [EE.out]
        all_goals simp only [Int.ofNat_lt]
        all_goals rfl
    · have i1 : ¬ (k : Int) < l.length := by omega
      have EE := Hid.mk (lessB_end (l := l) (m := m) (k := k) HEQ.out (by omega) (by omega) (by omega))
      go_wp2_with fail
      all_goals go_ret
      all_goals refine ⟨?_, kw⟩
      all_goals rw [EE.out]
      all_goals simp only [Int.ofNat_lt]
      all_goals rfl
set_option maxHeartbeats 1000000 in
theorem mless_c (l m : List UInt8) (w : World) (hl : l.length ≤ 1000000) (hm : m.length ≤ 1000000) : Calls Try.prog 56 #[str l, str m] w fun e w' => e = .returned (.bool (lessB l m)) ∧ Keep w w' := by
  go_enter Try.func56, Try.ntmps56
  go_wp2_with fail
  go_loopw [5] (fun iv wr => ∃ k : Nat, k ≤ l.length ∧ k ≤ m.length ∧ l.take k = m.take k ∧ iv = .int .i64 k ∧ Keep w wr) (fun i _ => l.length - (intOf i).toNat)
  case atStart => exact ⟨0, by omega, by omega, rfl, rfl, Keep.refl _⟩
  case round =>
    obtain ⟨k, h1, h2, heq, rfl, kw⟩ := hrel
    have HEQ := Hid.mk heq
    clear heq
    by_cases hl1 : k < l.length
    · by_cases hm1 : k < m.length
      · have i1 : (k : Int) < l.length := by omega
        have i2 : (k : Int) < m.length := by omega
        have LAT := fun hne => lessB_at HEQ.out hl1 hm1 hne
        by_cases he : l[k] = m[k]
        · have hb : (((l[k].toNat : Nat) : Int) != ((m[k].toNat : Nat) : Int)) = false := by simp [he]
          clear LAT
          go_wp2_with fail
          go_quiet (fail)
          go_wp2_with fail
          go_roundw
          case rel => exact ⟨k + 1, by omega, by omega, take_next HEQ.out hl1 hm1 he, by go_num, kw.drewN _⟩
          case measure => simp [intOf]; omega
        · have hb : (((l[k].toNat : Nat) : Int) != ((m[k].toNat : Nat) : Int)) = true := by
            simp only [bne_iff_ne, ne_eq]
            intro e
            exact he (UInt8.toNat_inj.1 (by omega))
          replace LAT := Hid.mk (LAT he)
          clear he
          go_wp2_with fail
          go_quiet (fail)
          go_wp2_with fail
          have kq := kw.drewN nq
          generalize wr.drewN nq = w4 at *
          go_quiet (fail)
          go_wp2_with fail
          go_ret
          refine ⟨?_, kq.drewN _⟩
          rw [LAT.out]
          simp only [Int.ofNat_lt]
          rfl
      · have i1 : (k : Int) < l.length := by omega
        have i2 : ¬ (k : Int) < m.length := by omega
        have EE := Hid.mk (lessB_end (l := l) (m := m) (k := k) HEQ.out (by omega) (by omega) (by omega))
        go_wp2_with fail
        all_goals go_ret
        all_goals refine ⟨?_, kw⟩
        all_goals rw [EE.out]
        all_goals simp only [Int.ofNat_lt]
        all_goals rfl
    · have i1 : ¬ (k : Int) < l.length := by omega
      have EE := Hid.mk (lessB_end (l := l) (m := m) (k := k) HEQ.out (by omega) (by omega) (by omega))
      go_wp2_with fail
      all_goals go_ret
      all_goals refine ⟨?_, kw⟩
      all_goals rw [EE.out]
      all_goals simp only [Int.ofNat_lt]
      all_goals rfl
set_option maxHeartbeats 1000000 in
theorem lessBytes_c (l m : List UInt8) (w : World) (hl : l.length ≤ 1000000) (hm : m.length ≤ 1000000) : Calls Try.prog 62 #[str l, str m] w fun e w' => e = .returned (.bool (lessB l m)) ∧ Keep w w' := by
  obtain ⟨n, hn⟩ : ∃ n, n = min l.length m.length := ⟨_, rfl⟩
  go_enter Try.func62, Try.ntmps62
  go_upto_if 12 with fail
  go_cut [5] from 7 to 14 (fun v wx => v = .int .i64 n ∧ wx = w)
  case first =>
    by_cases h : m.length < l.length
    · have i1 : (m.length : Int) < l.length := by omega
      go_wp2_with fail
      go_meet
      case rel => exact ⟨by rw [hn, Nat.min_eq_right (by omega)], rfl⟩
    · have i1 : ¬ (m.length : Int) < l.length := by omega
      go_wp2_with fail
      go_meet
      case rel => exact ⟨by rw [hn, Nat.min_eq_left (by omega)], rfl⟩
  case rest =>
  obtain ⟨rfl, rfl⟩ := hcut
  have hnl : n ≤ l.length := by omega
  have hnm : n ≤ m.length := by omega
  have hne : n = l.length ∨ n = m.length := by omega
  clear hn
  go_wp2_with fail
  go_loopw [6] (fun iv wr => ∃ k : Nat, k ≤ n ∧ l.take k = m.take k ∧ iv = .int .i64 k ∧ Keep wc wr) (fun i _ => n - (intOf i).toNat)
  case atStart => exact ⟨0, by omega, rfl, rfl, Keep.refl _⟩
  case round =>
    obtain ⟨k, h1, heq, rfl, kw⟩ := hrel
    have HEQ := Hid.mk heq
    clear heq
    by_cases hl0 : k < n
    · have hl1 : k < l.length := by omega
      have hm1 : k < m.length := by omega
      · have i0 : (k : Int) < n := by omega
        have i1 : (k : Int) < l.length := by omega
        have i2 : (k : Int) < m.length := by omega
        have LAT := fun hne => lessB_at HEQ.out hl1 hm1 hne
        by_cases he : l[k] = m[k]
        · have hb : (((l[k].toNat : Nat) : Int) != ((m[k].toNat : Nat) : Int)) = false := by simp [he]
          clear LAT
          go_wp2_with fail
          go_quiet (fail)
          go_wp2_with fail
          go_roundw
          case rel => exact ⟨k + 1, by omega, take_next HEQ.out hl1 hm1 he, by go_num, kw.drewN _⟩
          case measure => simp [intOf]; omega
        · have hb : (((l[k].toNat : Nat) : Int) != ((m[k].toNat : Nat) : Int)) = true := by
            simp only [bne_iff_ne, ne_eq]
            intro e
            exact he (UInt8.toNat_inj.1 (by omega))
          replace LAT := Hid.mk (LAT he)
          clear he
          go_wp2_with fail
          go_quiet (fail)
          go_wp2_with fail
          have kq := kw.drewN nq
          generalize wr.drewN nq = w4 at *
          go_quiet (fail)
          go_wp2_with fail
          go_ret
          refine ⟨?_, kq.drewN _⟩
          rw [LAT.out]
          simp only [Int.ofNat_lt]
          rfl
    · have i1 : ¬ (k : Int) < n := by omega
      have EE := Hid.mk (lessB_end (l := l) (m := m) (k := k) HEQ.out (by omega) (by omega) (by omega))
      go_wp2_with fail
      all_goals go_ret
      all_goals refine ⟨?_, kw⟩
      all_goals rw [EE.out]
      all_goals simp only [Int.ofNat_lt]
      all_goals rfl
/-- One octet into the hash. -/
def hsh1 (h : Int) (x : UInt8) : Int := bits .xor .u32 h ((x.toNat : Int) % 4294967296) * 16777619 % 4294967296
def hashB (l : List UInt8) : Int := l.foldl hsh1 2166136261
theorem hsh1_lt (h : Int) (x : UInt8) : 0 ≤ hsh1 h x ∧ hsh1 h x < 4294967296 := by
  unfold hsh1
  exact ⟨Int.emod_nonneg _ (by omega), Int.emod_lt_of_pos _ (by omega)⟩
theorem hashB_lt (l : List UInt8) : 0 ≤ hashB l ∧ hashB l < 4294967296 := by
  unfold hashB
  have : ∀ (l : List UInt8) (h : Int), 0 ≤ h ∧ h < 4294967296 → 0 ≤ l.foldl hsh1 h ∧ l.foldl hsh1 h < 4294967296 := by
    intro l
    induction l with
    | nil => intro h hh; exact hh
    | cons a l ih => intro h _; exact ih _ (hsh1_lt h a)
  exact this l _ (by omega)
set_option maxHeartbeats 1000000 in
theorem hashKey_c (l : List UInt8) (w : World) (hl : l.length ≤ 1000000) : Calls Try.prog 58 #[str l] w fun e w' => e = .returned (.int .u32 (hashB l)) ∧ w' = w := by
  go_enter Try.func58, Try.ntmps58
  go_wp2_with fail
  go_loopw [3, 4] (fun hv iv wr => ∃ k : Nat, k ≤ l.length ∧ iv = .int .i64 k ∧ hv = .int .u32 ((l.take k).foldl hsh1 2166136261) ∧ wr = w) (fun _ i _ => l.length - (intOf i).toNat)
  case atStart => exact ⟨0, by omega, rfl, rfl, rfl⟩
  case round =>
    obtain ⟨k, h1, rfl, rfl, rfl⟩ := hrel
    by_cases hlt : k < l.length
    · have i1 : (k : Int) < l.length := by omega
      have E : Hid ((l.take (k + 1)).foldl hsh1 2166136261 = hsh1 ((l.take k).foldl hsh1 2166136261) l[k]) := Hid.mk (by rw [List.take_succ_eq_append_getElem hlt, List.foldl_append]; rfl)
      generalize (l.take k).foldl hsh1 2166136261 = h at *
      go_wp2_with fail
      go_roundw
      case rel =>
        refine ⟨k + 1, by omega, by go_num, ?_, trivial⟩
        rw [E.out]
        unfold hsh1
        rfl
      case measure => simp [intOf]; omega
    · have hk : k = l.length := by omega
      subst hk
      have i1 : ¬ (l.length : Int) < l.length := by omega
      go_wp2_with fail
      go_ret
      refine ⟨?_, rfl⟩
      rfl
end Go.Proofs.Qxb6500766a
