/- mergem and mutatem: what only reads the tree. -/
import Derived.Test.Qxb6500767aTa
import Derived.Test.Qxb6500767aKe
namespace Go.Proofs.Qxb6500767a
open Go.RowKit Go.Qm
set_option linter.unusedVariables false
set_option linter.unusedSimpArgs false
attribute [local go_sem ↓] Go.wp_at_zero Go.wp_at_succ
def blk (n : Nat) : Nat := (n + 63) / 64
theorem blocksOf_c (n : Nat) (w : World) (hn : n ≤ 2 ^ 40) : Calls Try.prog 73 #[.int .i64 n] w fun e w' => e = .returned (.int .i64 (blk n : Nat)) ∧ w' = w := by
  have e1 : IntKind.i64.wrap ((n : Int) + 64) = ((n + 64 : Nat) : Int) := by rw [IntKind.wrap_i64] <;> omega
  have e2 : IntKind.i64.wrap (((n + 64 : Nat) : Int) - 1) = ((n + 63 : Nat) : Int) := by rw [IntKind.wrap_i64] <;> omega
  have e3 : ((n + 63 : Nat) : Int).tdiv 64 = ((blk n : Nat) : Int) := (Int.ofNat_tdiv _ _).symm
  have e4 : IntKind.i64.wrap ((blk n : Nat) : Int) = ((blk n : Nat) : Int) := by unfold blk; rw [IntKind.wrap_i64] <;> omega
  generalize blk n = q at *
  generalize n + 64 = a at *
  generalize n + 63 = b at *
  go_enter Try.func73, Try.ntmps73
  go_wp2_with fail
  go_ret
  exact ⟨rfl, rfl⟩
/-- How many of the nodes are there. -/
def usedN (T : List Nd) : Nat := (T.filter fun x => x.kind != 0).length
def usedB (T : List Nd) : Nat := (T.map fun x => blk x.data.length).sum
theorem usedN_step {T : List Nd} {k : Nat} (h : k < T.length) : usedN (T.take (k + 1)) = usedN (T.take k) + if (at' T k).kind ≠ 0 then 1 else 0 := by
  rw [at_get h, List.take_succ_eq_append_getElem h, usedN, List.filter_append, List.length_append, ← usedN]
  by_cases e : T[k].kind = 0
  · rw [if_neg (by simpa using e)]; simp [e]
  · rw [if_pos e]; simp [e]
theorem usedN_le (T : List Nd) : usedN T ≤ T.length := List.length_filter_le _ _
theorem usedB_step {T : List Nd} {k : Nat} (h : k < T.length) : usedB (T.take (k + 1)) = usedB (T.take k) + blk (at' T k).data.length := by
  rw [at_get h, List.take_succ_eq_append_getElem h, usedB, List.map_append, List.sum_append, ← usedB]; simp
set_option maxRecDepth 3000 in
set_option maxHeartbeats 2000000 in
theorem freeNodes_c (gt : Nat) (T : List Nd) (w : World) (h : TR w gt T) (hT : T.length ≤ 1000000) :
    Calls Try.prog 19 #[.pointer (some ⟨gt, 0, none⟩)] w fun e w' => e = .returned (.int .i64 (256 - (usedN T : Nat) : Int)) ∧ w' = w := by
  obtain ⟨bn, cap, c0, h1, h2, h3⟩ := h
  unfold maxLen at h2
  have HT := usedN_le T
  obtain ⟨n, hn⟩ : ∃ n, n = T.length := ⟨_, rfl⟩
  have HN := Hid.mk hn
  rw [← hn] at c0 h1 hT
  go_enter Try.func19, Try.ntmps19
  go_wp2_with fail
  go_loopg [3, 4] n (fun gk uv iv wr => ∃ k u : Nat, k + gk = n ∧ u = usedN (T.take k) ∧ uv = .int .i64 u ∧ iv = .int .i64 k ∧ wr = w)
  case atStart => exact ⟨0, 0, Nat.zero_add _, rfl, rfl, rfl, rfl⟩
  case round => as_aux_lemma =>
    obtain ⟨k, u, hk, hu, rfl, rfl, rfl⟩ := hrel
    by_cases hlt : k < n
    · have j1 : (k : Int) < n := by omega
      have j0 : (0 : Int) ≤ k := by omega
      have hkT : k < T.length := by omega
      obtain ⟨dv, ev, n0, -⟩ := h3 k hkT
      have ST := usedN_step hkT
      have ul := usedN_le (T.take k)
      rw [List.length_take] at ul
      rw [← hu] at ST ul
      generalize (at' T k).kind = kd at *
      have HU := Hid.mk hu
      clear hu h3
      by_cases hkd : kd = 0
      · rw [if_neg (by simpa using hkd)] at ST
        have q1 : ((kd : Int) != 0) = false := by simp [hkd]
        have HST := Hid.mk ST
        clear ST hkd
        go_wp2_with fail
        go_roundg (gk - 1)
        case measure => omega
        case rel => exact ⟨k + 1, u, by omega, by rw [HST.out]; rfl, rfl, by go_num, rfl⟩
      · rw [if_pos hkd] at ST
        have q1 : ((kd : Int) != 0) = true := by simp [hkd]
        have HST := Hid.mk ST
        clear ST hkd
        go_wp2_with fail
        go_roundg (gk - 1)
        case measure => omega
        case rel => exact ⟨k + 1, u + 1, by omega, by rw [HST.out], by go_num, by go_num, rfl⟩
    · have j1 : ¬ (k : Int) < n := by omega
      rw [List.take_of_length_le (by omega)] at hu
      have e1 : IntKind.i64.wrap (256 - (u : Int)) = 256 - (u : Int) := by rw [IntKind.wrap_i64] <;> omega
      have HU := Hid.mk hu
      clear hu h3
      go_wp2_with fail
      go_ret
      rw [← HU.out]
      exact ⟨rfl, rfl⟩
set_option maxRecDepth 3000 in
set_option maxHeartbeats 2000000 in
theorem freeBlocks_c (gt : Nat) (T : List Nd) (w : World) (h : TR w gt T) (hT : T.length ≤ 1000000) (hB : usedB T ≤ 1000000) :
    Calls Try.prog 20 #[.pointer (some ⟨gt, 0, none⟩)] w fun e w' => e = .returned (.int .i64 (512 - (usedB T : Nat) : Int)) ∧ w' = w := by
  obtain ⟨bn, cap, c0, h1, h2, h3⟩ := h
  unfold maxLen at h2
  obtain ⟨n, hn⟩ : ∃ n, n = T.length := ⟨_, rfl⟩
  have HN := Hid.mk hn
  rw [← hn] at c0 h1 hT
  have mono : ∀ k, usedB (T.take k) ≤ usedB T := fun k => by
    have : usedB T = usedB (T.take k) + usedB (T.drop k) := by unfold usedB; rw [← List.sum_append, ← List.map_append, List.take_append_drop]
    omega
  have HM := Hid.mk mono
  clear mono
  go_enter Try.func20, Try.ntmps20
  go_wp2_with fail
  go_loopg [3, 4] n (fun gk uv iv wr => ∃ k u : Nat, k + gk = n ∧ u = usedB (T.take k) ∧ uv = .int .i64 u ∧ iv = .int .i64 k ∧ wr = w)
  case atStart => exact ⟨0, 0, Nat.zero_add _, rfl, rfl, rfl, rfl⟩
  case round => as_aux_lemma =>
    obtain ⟨k, u, hk, hu, rfl, rfl, rfl⟩ := hrel
    by_cases hlt : k < n
    · have j1 : (k : Int) < n := by omega
      have j0 : (0 : Int) ≤ k := by omega
      have hkT : k < T.length := by omega
      obtain ⟨dv, ev, -, -, -, -, -, n5, -, hb, -⟩ := h3 k hkT
      obtain ⟨da, dc, rfl, hdc, hdm, -⟩ := hb.form
      have ST := usedB_step hkT
      have ul := HM.out (k + 1)
      have ul0 := HM.out k
      rw [← hu] at ul0
      rw [← hu] at ST
      rw [ST] at ul
      have hdl : (at' T k).data.length ≤ 2 ^ 40 := by unfold blk at ul; omega
      have BC := fun W => blocksOf_c (at' T k).data.length W hdl
      generalize (at' T k).data.length = dl at *
      generalize blk dl = q at *
      have HST := Hid.mk ST
      unfold maxLen at hdm
      clear hu h3 ST hb
      go_wp2_with fail
      refine (BC _).mono ?_
      rintro e w1 ⟨rfl, rfl⟩
      have e1 : IntKind.i64.wrap ((u : Int) + q) = ((u + q : Nat) : Int) := by rw [IntKind.wrap_i64] <;> omega
      go_wp2_with fail
      go_roundg (gk - 1)
      case measure => omega
      case rel => exact ⟨k + 1, u + q, by omega, HST.out.symm, rfl, by go_num, rfl⟩
    · have j1 : ¬ (k : Int) < n := by omega
      rw [List.take_of_length_le (by omega)] at hu
      have e1 : IntKind.i64.wrap (512 - (u : Int)) = 512 - (u : Int) := by rw [IntKind.wrap_i64] <;> omega
      have HU := Hid.mk hu
      clear hu h3
      go_wp2_with fail
      go_ret
      rw [← HU.out]
      exact ⟨rfl, rfl⟩
end Go.Proofs.Qxb6500767a
