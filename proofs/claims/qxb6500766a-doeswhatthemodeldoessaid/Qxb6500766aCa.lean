/- foldindex: seat. -/
import Derived.Test.Qxb6500766aSm
import Derived.Deep.LoopGhost
namespace Go.Proofs.Qxb6500766a
open Go.RowKit Go.Qm
set_option linter.unusedVariables false
set_option linter.unusedSimpArgs false
attribute [local go_sem ↓] Go.wp_at_zero Go.wp_at_succ
/-- seat's answer: the first shelf in use that bears dir. -/
def SeatP (U : Nat → Bool) (D : Nat → Int) (dir : Int) (e : Ending) : Prop :=
  (∃ i : Nat, i < 16 ∧ e = .returned (.int .i64 (i : Int)) ∧ U i = true ∧ D i = dir ∧ ∀ j, j < i → ¬ (U j = true ∧ D j = dir)) ∨ (e = .returned (.int .i64 (-1)) ∧ ∀ j, j < 16 → ¬ (U j = true ∧ D j = dir))
set_option maxRecDepth 4000 in
set_option maxHeartbeats 1000000 in
theorem seat_c (gc : Nat) (U : Nat → Bool) (D : Nat → Int) (dir : Int) (w : World) (hU : ∀ i, i < 16 → w.cell? ⟨gc, 1 + i * 6, none⟩ = some (.bool (U i))) (hD : ∀ i, i < 16 → w.cell? ⟨gc, 1 + i * 6 + 1, none⟩ = some (.int .i64 (D i))) :
    Calls Try.prog 40 #[.pointer (some ⟨gc, 0, none⟩), .int .i64 dir] w fun e w' => SeatP U D dir e ∧ w' = w := by
  have HU := Hid.mk hU
  have HD := Hid.mk hD
  clear hU hD
  go_enter Try.func40, Try.ntmps40
  go_wp2_with fail
  go_loopg [5] 16 (fun gk iv wr => ∃ k : Nat, k + gk = 16 ∧ iv = .int .i64 k ∧ (∀ j, j < k → ¬ (U j = true ∧ D j = dir)) ∧ wr = w)
  case atStart => exact ⟨0, by omega, rfl, fun j h => by omega, rfl⟩
  case round => as_aux_lemma =>
    obtain ⟨k, hk, rfl, hn, rfl⟩ := hrel
    have HK := Hid.mk hk
    have HN := Hid.mk hn
    clear hk hn
    by_cases hlt : k < 16
    · have i1 : (k : Int) < 16 := by omega
      have u := HU.out k hlt
      have d := HD.out k hlt
      obtain ⟨uk, huk⟩ : ∃ b, b = U k := ⟨_, rfl⟩
      obtain ⟨dk, hdk⟩ : ∃ b, b = D k := ⟨_, rfl⟩
      rw [← huk] at u
      rw [← hdk] at d
      have HUK := Hid.mk huk
      have HDK := Hid.mk hdk
      clear huk hdk
      cases uk with
      | false =>
        have HN2 : Hid (∀ j, j < k + 1 → ¬ (U j = true ∧ D j = dir)) := Hid.mk (fun j hj => by
          by_cases e : j = k
          · subst e; intro h; rw [← HUK.out] at h; cases h.1
          · exact HN.out j (by omega))
        go_wp2_with fail
        go_roundg (gk - 1)
        case measure => have := HK.out; omega
        case rel => exact ⟨k + 1, by have := HK.out; omega, by go_num, HN2.out, rfl⟩
      | true =>
        by_cases he : dk = dir
        · have t : (dk == dir) = true := by simpa using he
          have HE := Hid.mk he
          clear he
          go_wp2_with fail
          go_ret
          exact ⟨Or.inl ⟨k, hlt, rfl, HUK.out.symm, HDK.out.symm.trans HE.out, HN.out⟩, rfl⟩
        · have t : (dk == dir) = false := by simpa using he
          have HN2 : Hid (∀ j, j < k + 1 → ¬ (U j = true ∧ D j = dir)) := Hid.mk (fun j hj => by
            by_cases e : j = k
            · subst e; intro h; exact he (HDK.out.trans h.2)
            · exact HN.out j (by omega))
          clear he
          go_wp2_with fail
          go_roundg (gk - 1)
          case measure => have := HK.out; omega
          case rel => exact ⟨k + 1, by have := HK.out; omega, by go_num, HN2.out, rfl⟩
    · have i1 : ¬ (k : Int) < 16 := by omega
      have HN2 : Hid (∀ j, j < 16 → ¬ (U j = true ∧ D j = dir)) := Hid.mk (fun j hj => HN.out j (by omega))
      go_wp2_with fail
      go_ret
      exact ⟨Or.inr ⟨rfl, HN2.out⟩, rfl⟩
end Go.Proofs.Qxb6500766a
