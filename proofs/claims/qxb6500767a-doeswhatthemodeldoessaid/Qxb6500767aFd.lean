/- unionvfs: admit. -/
import Derived.Test.Qxb6500767aFb
namespace Go.Proofs.Qxb6500767a
open Go.RowKit Go.Qm
set_option linter.unusedVariables false
set_option linter.unusedSimpArgs false
attribute [local go_sem ↓] Go.wp_at_zero Go.wp_at_succ
def admF (x : Nd) (f : Int) : Int :=
  if nob f 8 = false then 10 else if (x.kind = 2 ∧ nob f 2 = false) then 8 else if (x.kind ≠ 2 ∧ nob f 64 = false) then 7
  else if (nob f 1 = false ∧ nob x.mode 256 = true) then 11 else if (nob f 2 = false ∧ nob x.mode 128 = true) then 11 else 0
theorem statL_c (gt i : Nat) (T : List Nd) (w : World) (h : TR w gt T) (hi : i < T.length) :
    Calls Try.prog 59 #[.pointer (some ⟨gt, 0, none⟩), .int .i64 i] w fun e w' => e = .returned (.agg #[.int .i64 (i : Nat), .int .i64 ((at' T i).kind : Nat), .int .i64 (at' T i).mode, .int .i64 ((at' T i).links : Nat), .int .i64 ((statF T i).size : Nat)]) ∧ Keep w w' := statOf_c gt i T w h hi
set_option maxRecDepth 3000 in
set_option maxHeartbeats 4000000 in
theorem admit_c (gf gt u i : Nat) (hs : List Hd) (f : Int) (T : List Nd) (w : World) (hf : FSW w gf gt u hs) (h : TR w gt T) (hi : i < T.length) :
    Calls Try.prog 81 #[.pointer (some ⟨gf, 0, none⟩), .int .i64 i, .int .i64 f] w fun e w' => e = .returned (.int .i64 (admF (at' T i) f)) ∧ Keep w w' := by
  obtain ⟨c0, c1⟩ := hf.head
  have SC := statL_c gt i T w h hi
  have HV : Hid (admF (at' T i) f = if nob f 8 = false then 10 else if ((at' T i).kind = 2 ∧ nob f 2 = false) then 8 else if ((at' T i).kind ≠ 2 ∧ nob f 64 = false) then 7 else if (nob f 1 = false ∧ nob (at' T i).mode 256 = true) then 11 else if (nob f 2 = false ∧ nob (at' T i).mode 128 = true) then 11 else 0) := Hid.mk rfl
  generalize admF (at' T i) f = V at *
  generalize (statF T i).size = sz at *
  generalize (at' T i).links = lk at *
  generalize (at' T i).mode = md at *
  generalize (at' T i).kind = kd at *
  clear hf h
  obtain ⟨b8, h8⟩ : ∃ b, b = nob f 8 := ⟨_, rfl⟩
  obtain ⟨b2, h2⟩ : ∃ b, b = nob f 2 := ⟨_, rfl⟩
  obtain ⟨b64, h64⟩ : ∃ b, b = nob f 64 := ⟨_, rfl⟩
  obtain ⟨b1, h1⟩ : ∃ b, b = nob f 1 := ⟨_, rfl⟩
  obtain ⟨br, hr⟩ : ∃ b, b = nob md 256 := ⟨_, rfl⟩
  obtain ⟨bw, hw⟩ : ∃ b, b = nob md 128 := ⟨_, rfl⟩
  rw [← h8, ← h2, ← h64, ← h1, ← hr, ← hw] at HV
  unfold nob at h8 h2 h64 h1 hr hw
  have f8 : (bits .and .i64 f 8 != 0) = !b8 := by rw [h8]; rfl
  have f2 : (bits .and .i64 f 2 != 0) = !b2 := by rw [h2]; rfl
  have f64 : (bits .and .i64 f 64 != 0) = !b64 := by rw [h64]; rfl
  have f1 : (bits .and .i64 f 1 != 0) = !b1 := by rw [h1]; rfl
  have er : (bits .and .i64 md 256 == 0) = br := hr.symm
  have ew : (bits .and .i64 md 128 == 0) = bw := hw.symm
  clear h8 h2 h64 h1 hr hw
  cases b8 with
  | false =>
    have HV2 := HV.out
    simp at HV2
    have HV3 := Hid.mk HV2
    clear HV HV2
    go_enter Try.func81, Try.ntmps81
    go_wp2_with fail
    refine SC.mono ?_
    rintro e w1 ⟨rfl, k1⟩
    go_wp2_with fail
    go_ret
    rw [HV3.out]
    exact ⟨rfl, k1.alloc _⟩
  | true =>
    by_cases hk : kd = 2
    · subst hk
      cases b2 with
      | false =>
        have HV2 := HV.out
        simp at HV2
        have HV3 := Hid.mk HV2
        clear HV HV2
        go_enter Try.func81, Try.ntmps81
        go_wp2_with fail
        refine SC.mono ?_
        rintro e w1 ⟨rfl, k1⟩
        go_wp2_with fail
        go_ret
        rw [HV3.out]
        exact ⟨rfl, k1.alloc _⟩
      | true =>
        cases b1 with
        | true =>
          have HV2 := HV.out
          simp at HV2
          have HV3 := Hid.mk HV2
          clear HV HV2
          go_enter Try.func81, Try.ntmps81
          go_wp2_with fail
          refine SC.mono ?_
          rintro e w1 ⟨rfl, k1⟩
          go_wp2_with fail
          go_ret
          rw [HV3.out]
          exact ⟨rfl, k1.alloc _⟩
        | false =>
          cases br with
          | true =>
            have HV2 := HV.out
            simp at HV2
            have HV3 := Hid.mk HV2
            clear HV HV2
            go_enter Try.func81, Try.ntmps81
            go_wp2_with fail
            refine SC.mono ?_
            rintro e w1 ⟨rfl, k1⟩
            go_wp2_with fail
            go_ret
            rw [HV3.out]
            exact ⟨rfl, k1.alloc _⟩
          | false =>
            have HV2 := HV.out
            simp at HV2
            have HV3 := Hid.mk HV2
            clear HV HV2
            go_enter Try.func81, Try.ntmps81
            go_wp2_with fail
            refine SC.mono ?_
            rintro e w1 ⟨rfl, k1⟩
            go_wp2_with fail
            go_ret
            rw [HV3.out]
            exact ⟨rfl, k1.alloc _⟩
    · have z1 : ((kd : Int) == 2) = false := by simp; omega
      have z2 : ((kd : Int) != 2) = true := by simp; omega
      have HK := Hid.mk hk
      clear hk
      cases b2 with
      | false =>
        cases b64 with
        | false =>
          have HV2 := HV.out
          simp [HK.out] at HV2
          have HV3 := Hid.mk HV2
          clear HV HV2
          go_enter Try.func81, Try.ntmps81
          go_wp2_with fail
          refine SC.mono ?_
          rintro e w1 ⟨rfl, k1⟩
          go_wp2_with fail
          go_ret
          rw [HV3.out]
          exact ⟨rfl, k1.alloc _⟩
        | true =>
          cases b1 with
          | true =>
            cases bw with
            | true =>
              have HV2 := HV.out
              simp [HK.out] at HV2
              have HV3 := Hid.mk HV2
              clear HV HV2
              go_enter Try.func81, Try.ntmps81
              go_wp2_with fail
              refine SC.mono ?_
              rintro e w1 ⟨rfl, k1⟩
              go_wp2_with fail
              go_ret
              rw [HV3.out]
              exact ⟨rfl, k1.alloc _⟩
            | false =>
              have HV2 := HV.out
              simp [HK.out] at HV2
              have HV3 := Hid.mk HV2
              clear HV HV2
              go_enter Try.func81, Try.ntmps81
              go_wp2_with fail
              refine SC.mono ?_
              rintro e w1 ⟨rfl, k1⟩
              go_wp2_with fail
              go_ret
              rw [HV3.out]
              exact ⟨rfl, k1.alloc _⟩
          | false =>
            cases br with
            | true =>
              have HV2 := HV.out
              simp [HK.out] at HV2
              have HV3 := Hid.mk HV2
              clear HV HV2
              go_enter Try.func81, Try.ntmps81
              go_wp2_with fail
              refine SC.mono ?_
              rintro e w1 ⟨rfl, k1⟩
              go_wp2_with fail
              go_ret
              rw [HV3.out]
              exact ⟨rfl, k1.alloc _⟩
            | false =>
              cases bw with
              | true =>
                have HV2 := HV.out
                simp [HK.out] at HV2
                have HV3 := Hid.mk HV2
                clear HV HV2
                go_enter Try.func81, Try.ntmps81
                go_wp2_with fail
                refine SC.mono ?_
                rintro e w1 ⟨rfl, k1⟩
                go_wp2_with fail
                go_ret
                rw [HV3.out]
                exact ⟨rfl, k1.alloc _⟩
              | false =>
                have HV2 := HV.out
                simp [HK.out] at HV2
                have HV3 := Hid.mk HV2
                clear HV HV2
                go_enter Try.func81, Try.ntmps81
                go_wp2_with fail
                refine SC.mono ?_
                rintro e w1 ⟨rfl, k1⟩
                go_wp2_with fail
                go_ret
                rw [HV3.out]
                exact ⟨rfl, k1.alloc _⟩
      | true =>
        cases b64 with
        | false =>
          have HV2 := HV.out
          simp [HK.out] at HV2
          have HV3 := Hid.mk HV2
          clear HV HV2
          go_enter Try.func81, Try.ntmps81
          go_wp2_with fail
          refine SC.mono ?_
          rintro e w1 ⟨rfl, k1⟩
          go_wp2_with fail
          go_ret
          rw [HV3.out]
          exact ⟨rfl, k1.alloc _⟩
        | true =>
          cases b1 with
          | true =>
            have HV2 := HV.out
            simp [HK.out] at HV2
            have HV3 := Hid.mk HV2
            clear HV HV2
            go_enter Try.func81, Try.ntmps81
            go_wp2_with fail
            refine SC.mono ?_
            rintro e w1 ⟨rfl, k1⟩
            go_wp2_with fail
            go_ret
            rw [HV3.out]
            exact ⟨rfl, k1.alloc _⟩
          | false =>
            cases br with
            | true =>
              have HV2 := HV.out
              simp [HK.out] at HV2
              have HV3 := Hid.mk HV2
              clear HV HV2
              go_enter Try.func81, Try.ntmps81
              go_wp2_with fail
              refine SC.mono ?_
              rintro e w1 ⟨rfl, k1⟩
              go_wp2_with fail
              go_ret
              rw [HV3.out]
              exact ⟨rfl, k1.alloc _⟩
            | false =>
              have HV2 := HV.out
              simp [HK.out] at HV2
              have HV3 := Hid.mk HV2
              clear HV HV2
              go_enter Try.func81, Try.ntmps81
              go_wp2_with fail
              refine SC.mono ?_
              rintro e w1 ⟨rfl, k1⟩
              go_wp2_with fail
              go_ret
              rw [HV3.out]
              exact ⟨rfl, k1.alloc _⟩
end Go.Proofs.Qxb6500767a
