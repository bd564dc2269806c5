/- The proof of 'Rows.NamesDifferSaid'. The walk is typed by hand; the row's step is the guide's template. -/
import Derived.Test.Qxb6500771aRows
import Derived.WalkKit
import Derived.ProofKit
import Derived.OpenShut
import Derived.ShutString
namespace Go.Proofs.Qxb6500771a.namesDiffer
open Go.ChangeShapes Go.WideShapes Go.ChangeAt Go.RowKit
open Go.ChangeMaps (open_string shut_string)
set_option linter.unusedVariables false      -- a walk need not use every 'w<i>' (that an integer argument fits its kind)

theorem own : ownKnob Try.prog.godebug = none := by kernel_rfl

def nm (k : Int) : ByteArray :=
  if (k == 0) = true then ⟨#[111, 107]⟩ else
  if (k == 1) = true then ⟨#[101, 110, 99, 114, 121, 112, 116, 105, 111, 110, 32, 116, 121, 112, 101, 32, 110, 111, 116, 32, 115, 101, 114, 118, 101, 100]⟩ else
  if (k == 2) = true then ⟨#[119, 114, 111, 110, 103, 32, 107, 101, 121, 32, 108, 101, 110, 103, 116, 104]⟩ else
  if (k == 3) = true then ⟨#[102, 108, 97, 103, 32, 110, 111, 116, 32, 97, 108, 108, 111, 119, 101, 100]⟩ else
  if (k == 4) = true then ⟨#[109, 101, 115, 115, 97, 103, 101, 32, 116, 111, 111, 32, 108, 111, 110, 103]⟩ else
  if (k == 5) = true then ⟨#[119, 114, 111, 110, 103, 32, 99, 111, 110, 102, 111, 117, 110, 100, 101, 114, 32, 108, 101, 110, 103, 116, 104]⟩ else
  if (k == 6) = true then ⟨#[98, 97, 100, 32, 101, 120, 116, 114, 97, 32, 99, 111, 117, 110, 116]⟩ else
  if (k == 7) = true then ⟨#[114, 111, 116, 97, 116, 105, 111, 110, 32, 99, 111, 117, 110, 116, 32, 110, 111, 116, 32, 97, 108, 108, 111, 119, 101, 100]⟩ else
  if (k == 8) = true then ⟨#[116, 111, 107, 101, 110, 32, 116, 111, 111, 32, 115, 104, 111, 114, 116]⟩ else
  if (k == 9) = true then ⟨#[111, 99, 116, 101, 116, 115, 32, 98, 101, 104, 105, 110, 100, 32, 116, 104, 101, 32, 116, 111, 107, 101, 110]⟩ else
  if (k == 10) = true then ⟨#[119, 114, 111, 110, 103, 32, 116, 111, 107, 101, 110, 32, 105, 100, 101, 110, 116, 105, 102, 105, 101, 114]⟩ else
  if (k == 11) = true then ⟨#[98, 97, 100, 32, 102, 105, 108, 108, 101, 114]⟩ else
  if (k == 12) = true then ⟨#[116, 111, 107, 101, 110, 32, 114, 101, 102, 108, 101, 99, 116, 101, 100]⟩ else
  if (k == 13) = true then ⟨#[99, 104, 101, 99, 107, 115, 117, 109, 32, 100, 111, 101, 115, 32, 110, 111, 116, 32, 102, 105, 116]⟩ else
  if (k == 14) = true then ⟨#[115, 101, 97, 108, 101, 100, 32, 104, 101, 97, 100, 101, 114, 32, 100, 105, 102, 102, 101, 114, 115]⟩ else
  if (k == 15) = true then ⟨#[98, 117, 102, 102, 101, 114, 32, 116, 111, 111, 32, 115, 109, 97, 108, 108]⟩ else
  if (k == 16) = true then ⟨#[110, 101, 103, 97, 116, 105, 118, 101, 32, 108, 101, 110, 103, 116, 104]⟩ else
  ⟨#[117, 110, 107, 110, 111, 119, 110, 32, 111, 117, 116, 99, 111, 109, 101]⟩

theorem name_any (k : Int) (w : World) :
    Calls Try.prog 33 #[.int .i64 k] w fun e w' => e = .returned (.string (nm k)) ∧ w' = w := by
  go_enter Try.func33, Try.ntmps33
  go_wp2
  all_goals (go_ret; refine ⟨?_, rfl⟩; simp [nm, *])


theorem nm_ne : ∀ k : Nat, k < 17 → (nm k).toList.isEmpty = false ∧ ((nm k).toList == (nm 19).toList) = false ∧ ∀ j : Nat, j < k → ((nm k).toList == (nm j).toList) = false := by decide +kernel

set_option maxHeartbeats 400000 in
theorem walk (w : World) :
    Calls Try.prog 6 #[] w fun e w' => e = .returned (.bool true) ∧ w' = w := by
  go_enter Try.func6, Try.ntmps6
  go_wp2
  go_loop [1] (fun a => ∃ k : Nat, k ≤ 17 ∧ a = .int .i64 k) (fun a => 17 - (intOf a).toNat)
  case atStart => exact ⟨0, by omega, rfl⟩
  case round =>
    obtain ⟨k, hk, rfl⟩ := hrel
    by_cases hlt : k < 17
    · obtain ⟨h1, h2, h3⟩ := nm_ne k hlt
      have hle : (k : Int) ≤ 16 := by omega
      go_wp2_with (go_at_call 33; refine (name_any _ _).mono ?_; rintro e w' ⟨rfl, rfl⟩)
      go_loop [2] (fun b => ∃ j : Nat, j ≤ k ∧ b = .int .i64 j) (fun b => k - (intOf b).toNat)
      case atStart => exact ⟨0, by omega, rfl⟩
      case round =>
        obtain ⟨j, hj, rfl⟩ := hrel
        by_cases hjk : j < k
        · have h4 := h3 j hjk
          have hjk' : (j : Int) < k := by omega
          go_wp2_with (go_at_call 33; refine (name_any _ _).mono ?_; rintro e w' ⟨rfl, rfl⟩)
          go_round
          case rel => exact ⟨j + 1, by omega, by go_num⟩
          case measure => simp [intOf]; omega
        · have hjk' : ¬ (j : Int) < k := by omega
          go_wp2
          go_round
          case rel => exact ⟨k + 1, by omega, by go_num⟩
          case measure => simp [intOf]; omega
    · have hle : ¬ (k : Int) ≤ 16 := by omega
      go_wp2
      go_ret
      exact ⟨rfl, rfl⟩

/-! ### THE ROW's STEP: WRITTEN OUT: LEAVE IT -/
set_option maxRecDepth 100000 in
theorem lifted (os : Os) (started : os.Started) (H : Type) (enc : TypeId × Value → H) :
    ReturnsInHanded {} Try.checked os 6 .any (Rows.namesDifferSpec.pre6 enc Try.prog Try.f6 Rows.namesDifferRow.domain false) (Rows.namesDifferSpec.post enc Try.prog Try.f6 false true false false) := by
  refine returnsInHanded_of_change (C := Try.checked) own started (by kernel_rfl) Try.func6
    (ChangeSpec.witness6 (enc := enc) (C := Try.checked) false ⟨#[], #[], []⟩ 8 (by kernel_rfl) (by kernel_rfl) (by kernel_rfl) (by kernel_rfl)) ?_
  intro W base args ds gs before hval0 hW hcnd _
  have hval : ∀ (j : Nat) t v, Try.f6.params[j]? = some t → args[j]? = some v → Value.okWide Try.prog W .any base t v := hval0
  have hW' := hW
  obtain ⟨p, q, hA0, hV, rfl, hfz, hnd⟩ := hW
  have hA : DataW.TrodAll enc Try.prog W 0 (fun _ => true) true Try.f6.params.toList args.toList ds p := hA0
  rw [Try.params6] at hA hval
  obtain ⟨rfl, rfl, rfl⟩ := trodAll_none hA
  obtain ⟨rfl, rfl⟩ := trodVars_none hV
  clear hA0 hval0
  simp only [List.append_nil] at hW'
  refine (walk  W).mono fun e W' ⟨he, hw⟩ => ?_
  subst he; subst hw
  have hg : Grown W' W' := Grown.refl _
  exact ⟨_, rfl, post_of_same (pa := []) (pv := []) hW' (fun _ _ _ => (trodAll_cons_mk (shut_bool Try.underlying4 _) trodAll_mk0)) (fun sp _ => rfl) (fun _ _ => rfl) rfl
    (hg.frame _) hg.2.1 (ok_one (by kernel_rfl) rfl (okWide_bool_mk Try.underlying4 _))⟩

theorem over : Rows.namesDifferRow.holds Try.pinned (OpenSpec.ofChange Rows.namesDifferSpec) :=
  OpenClaim.holds_of_wide 6 Try.f6 rfl rfl rfl rfl rfl rfl rfl ⟨rfl, rfl, rfl, rfl, rfl⟩ rfl rfl rfl rfl rfl (by kernel_rfl) Try.func6 (by kernel_rfl)
    (of_decide_eq_true (by kernel_rfl)) (by unfold Func.isWrapper; first | (rw [if_pos (by decide +kernel)]; kernel_rfl) | (rw [if_neg (by decide +kernel)]; exact ⟨rfl, rfl⟩))
    (fun os started H enc _ => lifted os started H enc)

/-- ████ THE STATEMENT ████ -/
theorem proved : Rows.NamesDifferSaid :=
  over
end Go.Proofs.Qxb6500771a.namesDiffer
