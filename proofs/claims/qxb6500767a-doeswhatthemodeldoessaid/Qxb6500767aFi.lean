/- unionvfs: ReadAt. -/
import Derived.Test.Qxb6500767aFh
namespace Go.Proofs.Qxb6500767a
open Go.RowKit Go.Qm
set_option linter.unusedVariables false
set_option linter.unusedSimpArgs false
attribute [local go_sem ↓] Go.wp_at_zero Go.wp_at_succ
def rdaF (u : Nat) (hs : List Hd) (T : List Nd) (h off m : Int) : List UInt8 × Int :=
  if getOK u hs h 1 = false then ([], 1) else if (hat hs h.toNat).dir = true then ([], 8) else if m < 0 ∨ vsB off = false then ([], 2) else (readF (at' T (hat hs h.toNat).node).data off.toNat m.toNat, 0)
set_option maxRecDepth 3000 in
set_option maxHeartbeats 2000000 in
theorem vReadAt_c (B gf gt u : Nat) (h off m : Int) (fp : Nat → Prop) (hs : List Hd) (T : List Nd) (w : World) (hV : VW B fp w gf gt u hs T) (hN : HNode u hs T) (hD : ∀ i, i < T.length → (at' T i).data.length ≤ 1000000) :
    Calls Try.prog 25 #[.pointer (some ⟨gf, 0, none⟩), .int .i64 h, .int .i64 off, .int .i64 m] w fun e w' => e = .returned (.tuple #[str (rdaF u hs T h off m).1, .int .i64 (rdaF u hs T h off m).2]) ∧ Keep w w' := by
  have GC := getFile_c gf gt u hs h 1 w hV.fs
  have VS := fun W => validSize_c off W
  obtain ⟨R, hR⟩ : ∃ R, R = rdaF u hs T h off m := ⟨_, rfl⟩
  rw [← hR]
  unfold rdaF at hR
  unfold getFV at GC
  cases hok : getOK u hs h 1 with
  | false =>
    rw [if_pos hok] at hR
    rw [if_neg (by rw [hok]; decide)] at GC
    have HV := Hid.mk hR
    clear hR hok hV
    go_enter Try.func25, Try.ntmps25
    go_wp2_with fail
    refine GC.mono ?_
    rintro e w0 ⟨rfl, rfl⟩
    go_wp2_with fail
    go_ret2
    rw [HV.out]
    exact ⟨rfl, Keep.refl _⟩
  | true =>
    rw [if_neg (by rw [hok]; decide)] at hR
    rw [if_pos hok] at GC
    obtain ⟨n, rfl, hn, htb⟩ := getOK_lt hok
    rw [Int.toNat_natCast] at GC hR
    cases hdr : (hat hs n).dir with
    | true =>
      rw [if_pos hdr] at hR
      rw [if_pos hdr] at GC
      have HV := Hid.mk hR
      clear hR hok hV hdr
      go_enter Try.func25, Try.ntmps25
      go_wp2_with fail
      refine GC.mono ?_
      rintro e w0 ⟨rfl, rfl⟩
      go_wp2_with fail
      go_ret2
      rw [HV.out]
      exact ⟨rfl, Keep.refl _⟩
    | false =>
      rw [if_neg (by rw [hdr]; decide)] at hR
      rw [if_neg (by rw [hdr]; decide)] at GC
      clear hdr
      by_cases hm : m < 0
      · rw [if_pos (Or.inl hm)] at hR
        have HV := Hid.mk hR
        have z1 : decide (m < 0) = true := decide_eq_true hm
        clear hR hok hV
        go_enter Try.func25, Try.ntmps25
        go_wp2_with fail
        refine GC.mono ?_
        rintro e w0 ⟨rfl, rfl⟩
        go_wp2_with fail
        go_ret2
        rw [HV.out]
        exact ⟨rfl, Keep.refl _⟩
      · have z1 : decide (m < 0) = false := decide_eq_false hm
        cases hv : vsB off with
        | false =>
          rw [if_pos (Or.inr hv)] at hR
          rw [hv] at VS
          have HV := Hid.mk hR
          clear hR hok hV hv
          go_enter Try.func25, Try.ntmps25
          go_wp2_with fail
          refine GC.mono ?_
          rintro e w0 ⟨rfl, rfl⟩
          go_wp2_with fail
          refine (VS _).mono ?_
          rintro e w1 ⟨rfl, rfl⟩
          go_wp2_with fail
          go_ret2
          rw [HV.out]
          exact ⟨rfl, Keep.refl _⟩
        | true =>
          rw [if_neg (by rw [hv]; simp; omega)] at hR
          have hsz : 0 ≤ off ∧ off ≤ 1048576 := by unfold vsB at hv; simpa using hv
          rw [hv] at VS
          obtain ⟨z, rfl⟩ : ∃ z : Nat, off = (z : Int) := ⟨off.toNat, by omega⟩
          rw [Int.toNat_natCast] at hR
          have HV := Hid.mk hR
          have hnl := hN n hn htb
          have CC := fun W (hk : Keep w W) => readAt_c gt (hat hs n).node z m T W (hV.tree.tr.keep hk) hnl (by omega) (by omega) (hD _ hnl)
          obtain ⟨c0, c1⟩ := hV.fs.head
          obtain ⟨d0, -⟩ := hV.fs.cell hn
          generalize (hat hs n).node = nd at *
          generalize readF (at' T nd).data z m.toNat = M at *
          clear hR hok hV hv hN hsz hD
          go_enter Try.func25, Try.ntmps25
          go_wp2_with fail
          refine GC.mono ?_
          rintro e w0 ⟨rfl, rfl⟩
          go_wp2_with fail
          refine (VS _).mono ?_
          rintro e w1 ⟨rfl, rfl⟩
          go_upto_region 6 with fail
          obtain ⟨W0, hW0⟩ : ∃ W0, W0 = w1 := ⟨_, rfl⟩
          subst hW0
          go_cut [8, 9] from 28 to 38 (fun sv ev wx => sv = str M ∧ ev = .int .i64 0 ∧ Keep W0 wx)
          case first =>
            go_region_held3 (fun W => W.cell? ⟨gf, 0, none⟩ = some (.pointer (some ⟨gt, 0, none⟩)) ∧ W.cell? ⟨gf, 2 + n * 5, none⟩ = some (.int .i64 (nd : Nat)))
              (first | assumption | exact ⟨c0, d0⟩ | exact ⟨Q1.cell c0, Q1.cell d0⟩)
              ((go_at_call 77; refine (CC _ (Keep.refl W0).drew).mono ?_; rintro x y ⟨rfl, qq⟩; have Q1 : Keep W0 y := (Keep.refl W0).drew.trans qq))
            go_wp2_with fail
            go_meet
            case rel => exact ⟨rfl, rfl, Q1⟩
          case rest =>
            obtain ⟨rfl, rfl, k1⟩ := hcut
            go_wp2_with fail
            go_ret2
            rw [HV.out]
            exact ⟨rfl, k1⟩
end Go.Proofs.Qxb6500767a
