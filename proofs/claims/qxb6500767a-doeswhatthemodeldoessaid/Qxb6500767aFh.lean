/- unionvfs: Fchmod, Ftruncate. -/
import Derived.Test.Qxb6500767aFg
namespace Go.Proofs.Qxb6500767a
open Go.RowKit Go.Qm
set_option linter.unusedVariables false
set_option linter.unusedSimpArgs false
attribute [local go_sem ↓] Go.wp_at_zero Go.wp_at_succ
/-- Every open handle's node is there. -/
def HNode (u : Nat) (hs : List Hd) (T : List Nd) : Prop := ∀ n, n < 32 → u.testBit n = true → (hat hs n).node < T.length
def fchT (u : Nat) (hs : List Hd) (T : List Nd) (h mode : Int) : List Nd × Int :=
  if getOK u hs h 0 = false then (T, 1) else if vmB mode = false then (T, 2) else (T.set (hat hs h.toNat).node { at' T (hat hs h.toNat).node with mode := mode }, 0)
set_option maxRecDepth 3000 in
set_option maxHeartbeats 2000000 in
theorem vFchmod_c (B gf gt u : Nat) (h mode : Int) (fp : Nat → Prop) (hs : List Hd) (T : List Nd) (w : World) (hV : VW B fp w gf gt u hs T) (hN : HNode u hs T) :
    Calls Try.prog 38 #[.pointer (some ⟨gf, 0, none⟩), .int .i64 h, .int .i64 mode] w fun e w' => RetV B fp w gf gt u hs (fchT u hs T h mode).1 (.returned (.int .i64 (fchT u hs T h mode).2)) e w' := by
  have HH := Hid.mk hV
  have GC := get_c gf gt u hs h 0 w hV.fs
  have VM := fun W => validMode_c mode W
  obtain ⟨R, hR⟩ : ∃ R, R = fchT u hs T h mode := ⟨_, rfl⟩
  rw [← hR]
  unfold fchT at hR
  unfold getV at GC
  cases hok : getOK u hs h 0 with
  | false =>
    rw [if_pos hok] at hR
    rw [if_neg (by rw [hok]; decide)] at GC
    have HV := Hid.mk hR
    clear hR hok hV
    go_enter Try.func38, Try.ntmps38
    go_wp2_with fail
    refine GC.mono ?_
    rintro e w0 ⟨rfl, rfl⟩
    go_wp2_with fail
    go_ret
    rw [HV.out]
    exact RetV.of HH.out (Keep.refl _) _
  | true =>
    rw [if_neg (by rw [hok]; decide)] at hR
    rw [if_pos hok] at GC
    obtain ⟨n, rfl, hn, htb⟩ := getOK_lt hok
    rw [Int.toNat_natCast] at GC hR
    cases hv : vmB mode with
    | false =>
      rw [if_pos hv] at hR
      rw [hv] at VM
      have HV := Hid.mk hR
      clear hR hok hV hv
      go_enter Try.func38, Try.ntmps38
      go_wp2_with fail
      refine GC.mono ?_
      rintro e w0 ⟨rfl, rfl⟩
      go_wp2_with fail
      refine (VM _).mono ?_
      rintro e w1 ⟨rfl, rfl⟩
      go_wp2_with fail
      go_ret
      rw [HV.out]
      exact RetV.of HH.out (Keep.refl _) _
    | true =>
      rw [if_neg (by rw [hv]; decide)] at hR
      rw [hv] at VM
      have HV := Hid.mk hR
      have hnl := hN n hn htb
      have CC := fun W (hk : Keep w W) => chmod_c B gt (hat hs n).node mode fp T W (hV.tree.keep hk) hnl
      obtain ⟨c0, c1⟩ := hV.fs.head
      obtain ⟨d0, -⟩ := hV.fs.cell hn
      have HD := Hid.mk (fun W (f : FSW W gf gt u hs) => (f.cell hn).1)
      generalize (hat hs n).node = nd at *
      generalize T.set nd { at' T nd with mode := mode } = T' at *
      clear hR hok hV hv hN
      go_enter Try.func38, Try.ntmps38
      go_wp2_with fail
      refine GC.mono ?_
      rintro e w0 ⟨rfl, rfl⟩
      go_wp2_with fail
      refine (VM _).mono ?_
      rintro e w1 ⟨rfl, rfl⟩
      go_upto_region 6 with fail
      obtain ⟨W0, hW0⟩ : ∃ W0, W0 = w1 := ⟨_, rfl⟩
      subst hW0
      go_cut [30] from 21 to 30 (fun _ wx => ∃ fp1, VW B fp1 wx gf gt u hs T' ∧ Stp (fpV fp gf) (fpV fp1 gf) W0 wx)
      case first =>
        go_region_held3 (fun W => W.cell? ⟨gf, 0, none⟩ = some (.pointer (some ⟨gt, 0, none⟩)) ∧ W.cell? ⟨gf, 2 + n * 5, none⟩ = some (.int .i64 (nd : Nat)))
          (first | assumption | exact ⟨c0, d0⟩ | exact ⟨V1.fs.head.1, HD.out _ V1.fs⟩)
          ((go_at_call 87; refine (CC _ (Keep.refl W0).drew).mono ?_; rintro x y ⟨fp1, rfl, t1, s1⟩; obtain ⟨V1, s2⟩ := (HH.out.keep (Keep.refl W0).drew).step t1 s1))
        go_wp2_with fail
        go_meet
        case rel => exact ⟨fp1, V1, (Stp.keep (Keep.refl W0).drew).trans s2⟩
      case rest =>
        obtain ⟨fp1, V1, s1⟩ := hcut
        have HX := Hid.mk V1
        have HS := Hid.mk s1
        clear V1 s1
        go_wp2_with fail
        go_ret
        rw [HV.out]
        exact ⟨fp1, rfl, HX.out, HS.out⟩
def ftrT (u : Nat) (hs : List Hd) (T : List Nd) (h size : Int) : List Nd × Int :=
  if getOK u hs h 2 = false then (T, 1) else if (hat hs h.toNat).dir = true then (T, 8) else if vsB size = false then (T, 2) else resT T (hat hs h.toNat).node size.toNat
set_option maxRecDepth 3000 in
set_option maxHeartbeats 2000000 in
theorem vFtruncate_c (B gf gt u : Nat) (h size : Int) (fp : Nat → Prop) (hs : List Hd) (T : List Nd) (w : World) (hV : VW B fp w gf gt u hs T) (hN : HNode u hs T) (hT : T.length ≤ 1000000) (hU : usedB T ≤ 1000000) (hD : ∀ i, i < T.length → (at' T i).data.length ≤ 2 ^ 22) :
    Calls Try.prog 37 #[.pointer (some ⟨gf, 0, none⟩), .int .i64 h, .int .i64 size] w fun e w' => RetV B fp w gf gt u hs (ftrT u hs T h size).1 (.returned (.int .i64 (ftrT u hs T h size).2)) e w' := by
  have HH := Hid.mk hV
  have GC := getFile_c gf gt u hs h 2 w hV.fs
  have VS := fun W => validSize_c size W
  obtain ⟨R, hR⟩ : ∃ R, R = ftrT u hs T h size := ⟨_, rfl⟩
  rw [← hR]
  unfold ftrT at hR
  unfold getFV at GC
  cases hok : getOK u hs h 2 with
  | false =>
    rw [if_pos hok] at hR
    rw [if_neg (by rw [hok]; decide)] at GC
    have HV := Hid.mk hR
    clear hR hok hV
    go_enter Try.func37, Try.ntmps37
    go_wp2_with fail
    refine GC.mono ?_
    rintro e w0 ⟨rfl, rfl⟩
    go_wp2_with fail
    go_ret
    rw [HV.out]
    exact RetV.of HH.out (Keep.refl _) _
  | true =>
    rw [if_neg (by rw [hok]; decide)] at hR
    rw [if_pos hok] at GC
    obtain ⟨n, rfl, hn, htb⟩ := getOK_lt hok
    rw [Int.toNat_natCast] at GC hR
    cases hdr : (hat hs n).dir with
    | true =>
      rw [if_pos hdr] at hR
      rw [if_pos hdr] at GC
      have HV := Hid.mk hR
      clear hR hok hV hdr
      go_enter Try.func37, Try.ntmps37
      go_wp2_with fail
      refine GC.mono ?_
      rintro e w0 ⟨rfl, rfl⟩
      go_wp2_with fail
      go_ret
      rw [HV.out]
      exact RetV.of HH.out (Keep.refl _) _
    | false =>
      rw [if_neg (by rw [hdr]; decide)] at hR
      rw [if_neg (by rw [hdr]; decide)] at GC
      clear hdr
      cases hv : vsB size with
      | false =>
        rw [if_pos hv] at hR
        rw [hv] at VS
        have HV := Hid.mk hR
        clear hR hok hV hv
        go_enter Try.func37, Try.ntmps37
        go_wp2_with fail
        refine GC.mono ?_
        rintro e w0 ⟨rfl, rfl⟩
        go_wp2_with fail
        refine (VS _).mono ?_
        rintro e w1 ⟨rfl, rfl⟩
        go_wp2_with fail
        go_ret
        rw [HV.out]
        exact RetV.of HH.out (Keep.refl _) _
      | true =>
        rw [if_neg (by rw [hv]; decide)] at hR
        have hsz : 0 ≤ size ∧ size ≤ 1048576 := by unfold vsB at hv; simpa using hv
        rw [hv] at VS
        obtain ⟨z, rfl⟩ : ∃ z : Nat, size = (z : Int) := ⟨size.toNat, by omega⟩
        rw [Int.toNat_natCast] at hR
        have HV := Hid.mk hR
        have hnl := hN n hn htb
        have CC := fun W (hk : Keep w W) => resize_c B gt (hat hs n).node z fp T W (hV.tree.keep hk) hnl hT hU (by omega) (hD _ hnl)
        obtain ⟨c0, c1⟩ := hV.fs.head
        obtain ⟨d0, -⟩ := hV.fs.cell hn
        have HD := Hid.mk (fun W (f : FSW W gf gt u hs) => (f.cell hn).1)
        generalize (hat hs n).node = nd at *
        generalize resT T nd z = M at *
        obtain ⟨T', rr⟩ := M
        simp only at CC
        clear hR hok hV hv hN hsz hD
        go_enter Try.func37, Try.ntmps37
        go_wp2_with fail
        refine GC.mono ?_
        rintro e w0 ⟨rfl, rfl⟩
        go_wp2_with fail
        refine (VS _).mono ?_
        rintro e w1 ⟨rfl, rfl⟩
        go_upto_region 6 with fail
        obtain ⟨W0, hW0⟩ : ∃ W0, W0 = w1 := ⟨_, rfl⟩
        subst hW0
        go_cut [6] from 21 to 30 (fun rv wx => rv = .int .i64 rr ∧ ∃ fp1, VW B fp1 wx gf gt u hs T' ∧ Stp (fpV fp gf) (fpV fp1 gf) W0 wx)
        case first =>
          go_region_held3 (fun W => W.cell? ⟨gf, 0, none⟩ = some (.pointer (some ⟨gt, 0, none⟩)) ∧ W.cell? ⟨gf, 2 + n * 5, none⟩ = some (.int .i64 (nd : Nat)))
            (first | assumption | exact ⟨c0, d0⟩ | exact ⟨V1.fs.head.1, HD.out _ V1.fs⟩)
            ((go_at_call 58; refine (CC _ (Keep.refl W0).drew).mono ?_; rintro x y ⟨fp1, rfl, t1, s1⟩; obtain ⟨V1, s2⟩ := (HH.out.keep (Keep.refl W0).drew).step t1 s1))
          go_wp2_with fail
          go_meet
          case rel => exact ⟨rfl, fp1, V1, (Stp.keep (Keep.refl W0).drew).trans s2⟩
        case rest =>
          obtain ⟨rfl, fp1, V1, s1⟩ := hcut
          have HX := Hid.mk V1
          have HS := Hid.mk s1
          clear V1 s1
          go_wp2_with fail
          go_ret
          rw [HV.out]
          exact ⟨fp1, rfl, HX.out, HS.out⟩
end Go.Proofs.Qxb6500767a
