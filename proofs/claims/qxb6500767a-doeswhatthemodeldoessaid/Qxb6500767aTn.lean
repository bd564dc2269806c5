/- mutatem: within. -/
import Derived.Test.Qxb6500767aTl
namespace Go.Proofs.Qxb6500767a
open Go.RowKit Go.Qm
set_option linter.unusedVariables false
set_option linter.unusedSimpArgs false
attribute [local go_sem ↓] Go.wp_at_zero Go.wp_at_succ
/-- The root is reached in at most f steps. -/
def upZ (T : List Nd) : Nat → Nat → Prop
  | 0, d => d = 0
  | f + 1, d => d = 0 ∨ upZ T f (at' T d).par
def wthB (T : List Nd) : Nat → Nat → Nat → Bool
  | 0, d, n => d == n
  | f + 1, d, n => if d = n then true else if d = 0 then false else wthB T f (at' T d).par n
theorem wthB_eq (T : List Nd) (f d : Nat) : wthB T f d d = true := by cases f <;> simp [wthB]
theorem wthB_zero (T : List Nd) (f n : Nat) (h : (0 : Nat) ≠ n) : wthB T f 0 n = false := by cases f <;> simp [wthB, h]
set_option maxRecDepth 3000 in
set_option maxHeartbeats 2000000 in
theorem within_c (gt d n f : Nat) (T : List Nd) (w : World) (h : TR w gt T) (ok : TOK T) (hd : d < T.length) (hu : upZ T f d) (hn : n < T.length) :
    Calls Try.prog 96 #[.pointer (some ⟨gt, 0, none⟩), .int .i64 d, .int .i64 n] w fun e w' => e = .returned (.bool (wthB T f d n)) ∧ w' = w := by
  obtain ⟨R, hR⟩ : ∃ R, R = wthB T f d n := ⟨_, rfl⟩
  rw [← hR]
  obtain ⟨bn, cap, c0, h1, h2, h3⟩ := h
  unfold maxLen at h2
  have HOK := Hid.mk ok
  clear ok
  have hlen := HOK.out.len
  go_enter Try.func96, Try.ntmps96
  go_wp2_with fail
  go_loopg [1] f (fun gk dv wr => ∃ a : Nat, dv = .int .i64 (a : Nat) ∧ a < T.length ∧ upZ T gk a ∧ R = wthB T gk a n ∧ wr = w)
  case atStart => exact ⟨d, rfl, hd, hu, hR, rfl⟩
  case round => as_aux_lemma =>
    obtain ⟨a, rfl, ha, hua, hRa, rfl⟩ := hrel
    have i1 : (a : Int) < T.length := by omega
    have i0 : (0 : Int) ≤ a := by omega
    by_cases e1 : a = n
    · have HF : Hid (R = true) := Hid.mk (by rw [hRa, e1, wthB_eq])
      have q1 : ((a : Int) != n) = false := by simp [e1]
      have q2 : ((a : Int) == n) = true := by simp [e1]
      clear hua hRa e1 h3
      go_wp2_with fail
      go_ret
      rw [HF.out]
      exact ⟨rfl, rfl⟩
    · have q1 : ((a : Int) != n) = true := by simp; omega
      have q2 : ((a : Int) == n) = false := by simp; omega
      by_cases e2 : a = 0
      · have HF : Hid (R = false) := Hid.mk (by rw [hRa, e2, wthB_zero]; rw [← e2]; exact e1)
        have q3 : ((a : Int) != 0) = false := by simp [e2]
        clear hua hRa e1 e2 h3
        go_wp2_with fail
        go_ret
        rw [HF.out]
        exact ⟨rfl, rfl⟩
      · have q3 : ((a : Int) != 0) = true := by simp; omega
        cases gk with
        | zero => exact absurd hua e2
        | succ g =>
          rcases hua with hua | hua
          · exact absurd hua e2
          · obtain ⟨dv, ev, -, -, -, -, n4, -⟩ := h3 a ha
            have hpl := HOK.out.par a ha
            have HR2 : Hid (R = wthB T g (at' T a).par n) := Hid.mk (by rw [hRa, wthB, if_neg e1, if_neg e2])
            have HU := Hid.mk hua
            generalize (at' T a).par = p at *
            clear hua hRa e1 e2 h3
            go_wp2_with fail
            go_roundg g
            case measure => omega
            case rel => exact ⟨p, rfl, hpl, HU.out, HR2.out, rfl⟩
end Go.Proofs.Qxb6500767a
