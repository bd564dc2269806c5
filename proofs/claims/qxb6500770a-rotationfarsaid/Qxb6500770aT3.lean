import Derived.Test.Qxb6500770aT2
namespace Go.Proofs.Qxb6500770a
open Go.RowKit Go.Qm
set_option linter.unusedVariables false
set_option linter.unusedSimpArgs false

/-- Right rotation by s places. -/
def rotO (l : List UInt8) (s : Nat) : List UInt8 := l.drop (l.length - s) ++ l.take (l.length - s)
theorem rotO_zero (l : List UInt8) : rotO l 0 = l := by simp [rotO]
theorem rotO_length (l : List UInt8) (s : Nat) : (rotO l s).length = l.length := by simp [rotO]
theorem rotO_rev (l : List UInt8) (s : Nat) : (l.reverse.take s).reverse ++ (l.reverse.drop s).reverse = rotO l s := by
  rw [List.take_reverse, List.drop_reverse, List.reverse_reverse, List.reverse_reverse]; rfl

theorem cut1 (pre post : List Value) (m : List UInt8) (s : Nat) : pre ++ m.map cb ++ post = pre ++ (m.take s).map cb ++ ((m.drop s).map cb ++ post) := by
  have : m.map cb = (m.take s).map cb ++ (m.drop s).map cb := by rw [← List.map_append, List.take_append_drop]
  rw [this]; simp only [List.append_assoc]

set_option maxHeartbeats 400000 in
theorem rotOct_c (g o c : Nat) (e0 : TypeId) (pre post : List Value) (l : List UInt8) (n : Int) (w : World) (hn0 : 0 ≤ n) (hn1 : n < 18446744073709551616) (ho : o = pre.length) (hc : l.length ≤ c) (hm : c ≤ maxLen) (hg : Win w g e0 pre l post) :
    Calls Try.prog 16 #[.slice (some ⟨g, o, none⟩) l.length c, .int .u64 n] w fun e w' => e = .returned (.tuple #[]) ∧ Win w' g e0 pre (rotO l (n.toNat % l.length)) post ∧ w.grownBy w' (some g) := by
  have hm' := hm
  unfold maxLen at hm
  have HP : Hid (o = pre.length) := ho
  clear ho
  by_cases h2 : l.length < 2
  · have h2' : (l.length : Int) < 2 := by omega
    go_enter Try.func16, Try.ntmps16
    go_wp2
    refine bodyPost_ret (results_none rfl _ _ _) rfl ⟨rfl, ?_, grown_refl _ _⟩
    have : n.toNat % l.length = 0 ∨ l.length = 0 := by
      rcases Nat.lt_or_ge l.length 1 with h | h
      · right; omega
      · left
        have : l.length = 1 := by omega
        rw [this]; omega
    rcases this with h | h
    · rw [h, rotO_zero]; exact hg
    · have : l = [] := List.eq_nil_of_length_eq_zero h
      subst this
      simpa [rotO] using hg
  · have h2' : ¬ (l.length : Int) < 2 := by omega
    obtain ⟨s, hs⟩ : ∃ s : Nat, n.toNat % l.length = s := ⟨_, rfl⟩
    have hsl : s < l.length := by rw [← hs]; exact Nat.mod_lt _ (by omega)
    have es : n % (l.length : Int) = (s : Int) := by rw [← hs, Int.natCast_emod, Int.toNat_of_nonneg hn0]
    rw [hs]
    by_cases hs0 : s = 0
    · subst hs0
      go_enter Try.func16, Try.ntmps16
      go_wp2
      refine bodyPost_ret (results_none rfl _ _ _) rfl ⟨rfl, ?_, grown_refl _ _⟩
      rw [rotO_zero]; exact hg
    · have hs0' : ((s : Int) == 0) = false := by simp; omega
      have HH : Hid (n.toNat % l.length = s) := hs
      clear hs
      go_enter Try.func16, Try.ntmps16
      go_wp2_with fail
      refine (reverse_c g o l.length c e0 pre post l w rfl HP.out hc hm' hg).mono ?_
      rintro e w1 ⟨rfl, hw1, hg1⟩
      go_wp2_with fail
      refine (reverse_c g o s c e0 pre ((l.reverse.drop s).map cb ++ post) (l.reverse.take s) w1 (by simp; omega) HP.out (by omega) hm' (hw1.cut (cut1 pre post _ s))).mono ?_
      rintro e w2 ⟨rfl, hw2, hg2⟩
      go_wp2_with fail
      refine (reverse_c g (o + s) (l.length - s) (c - s) e0 (pre ++ (l.reverse.take s).reverse.map cb) post (l.reverse.drop s) w2 (by simp) (by rw [HP.out]; simp; omega) (by omega) (by omega) (hw2.cut (by simp))).mono ?_
      rintro e w3 ⟨rfl, hw3, hg3⟩
      go_wp2
      go_end0
      refine ⟨rfl, hw3.cut ?_, grown_trans (grown_trans hg1 hg2) hg3⟩
      rw [← rotO_rev, List.map_append, List.append_assoc pre]

end Go.Proofs.Qxb6500770a
