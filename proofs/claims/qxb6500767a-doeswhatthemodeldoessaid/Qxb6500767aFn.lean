/- unionvfs: Write. -/
import Derived.Test.Qxb6500767aFm
namespace Go.Proofs.Qxb6500767a
open Go.RowKit Go.Qm
set_option linter.unusedVariables false
set_option linter.unusedSimpArgs false
attribute [local go_sem ↓] Go.wp_at_zero Go.wp_at_succ
/-- An open handle that is no directory's is a file's. -/
def HFile (u : Nat) (hs : List Hd) (T : List Nd) : Prop := ∀ n, n < 32 → u.testBit n = true → (hat hs n).dir = false → (at' T (hat hs n).node).kind = 1
/-- Where a write begins. -/
def watF (T : List Nd) (x : Hd) : Nat := if nob x.flags 32 = false then (statF T x.node).size else x.off
/-- Write: the handles and the tree it leaves, the answer, the refusal. -/
def wrF (u : Nat) (hs : List Hd) (T : List Nd) (h : Int) (d : List UInt8) : List Hd × List Nd × Int × Int :=
  if getOK u hs h 2 = false then (hs, T, 0, 1) else if (hat hs h.toNat).dir = true then (hs, T, 0, 8) else if d = [] then (hs, T, 0, 0)
  else if (writeT T (hat hs h.toNat).node (watF T (hat hs h.toNat)) d).2 ≠ 0 then (hs, (writeT T (hat hs h.toNat).node (watF T (hat hs h.toNat)) d).1, 0, (writeT T (hat hs h.toNat).node (watF T (hat hs h.toNat)) d).2)
  else (hs.set h.toNat { hat hs h.toNat with off := watF T (hat hs h.toNat) + d.length }, (writeT T (hat hs h.toNat).node (watF T (hat hs h.toNat)) d).1, (d.length : Nat), 0)
set_option maxRecDepth 3000 in
set_option maxHeartbeats 4000000 in
theorem vWrite_c (B gf gt u : Nat) (h : Int) (d : List UInt8) (fp : Nat → Prop) (hs : List Hd) (T : List Nd) (w : World) (hV : VW B fp w gf gt u hs T) (hN : HNode u hs T) (hF : HFile u hs T) (hT : T.length ≤ 1000000) (hU : usedB T ≤ 1000000) (hD : ∀ i, i < T.length → (at' T i).data.length ≤ 1000000) (hO : ∀ n, n < 32 → (hat hs n).off ≤ 2000000) (hdl : d.length ≤ 100000) :
    Calls Try.prog 36 #[.pointer (some ⟨gf, 0, none⟩), .int .i64 h, str d] w fun e w' => RetV B fp w gf gt u (wrF u hs T h d).1 (wrF u hs T h d).2.1 (.returned (.tuple #[.int .i64 (wrF u hs T h d).2.2.1, .int .i64 (wrF u hs T h d).2.2.2])) e w' := by
  have HH := Hid.mk hV
  have GC := getFile_c gf gt u hs h 2 w hV.fs
  obtain ⟨R, hR⟩ : ∃ R, R = wrF u hs T h d := ⟨_, rfl⟩
  rw [← hR]
  unfold wrF at hR
  unfold getFV at GC
  cases hok : getOK u hs h 2 with
  | false =>
    rw [if_pos hok] at hR
    rw [if_neg (by rw [hok]; decide)] at GC
    have HV := Hid.mk hR
    clear hR hok hV
    go_enter Try.func36, Try.ntmps36
    go_wp2_with fail
    refine GC.mono ?_
    rintro e w0 ⟨rfl, rfl⟩
    go_wp2_with fail
    go_ret2
    rw [HV.out]
    exact RetV.of HH.out (Keep.refl _) _
  | true =>
    rw [if_neg (by rw [hok]; decide)] at hR
    rw [if_pos hok] at GC
    obtain ⟨n, rfl, hn, htb⟩ := getOK_lt hok
    rw [Int.toNat_natCast] at GC hR
    cases hdr : (hat hs n).dir with
    | true =>
      rw [if_pos hdr] at hR
      rw [if_pos hdr] at GC
      have HV := Hid.mk hR
      clear hR hok hV hdr
      go_enter Try.func36, Try.ntmps36
      go_wp2_with fail
      refine GC.mono ?_
      rintro e w0 ⟨rfl, rfl⟩
      go_wp2_with fail
      go_ret2
      rw [HV.out]
      exact RetV.of HH.out (Keep.refl _) _
    | false =>
      rw [if_neg (by rw [hdr]; decide)] at hR
      rw [if_neg (by rw [hdr]; decide)] at GC
      by_cases hd0 : d = []
      · rw [if_pos hd0] at hR
        have HV := Hid.mk hR
        subst hd0
        clear hR hok hV hdr
        go_enter Try.func36, Try.ntmps36
        go_wp2_with fail
        refine GC.mono ?_
        rintro e w0 ⟨rfl, rfl⟩
        go_wp2_with fail
        go_ret2
        rw [HV.out]
        exact RetV.of HH.out (Keep.refl _) _
      · rw [if_neg hd0] at hR
        have hnl := hN n hn htb
        have hkd := hF n hn htb hdr
        have hsz : (statF T (hat hs n).node).size ≤ 1000000 := by
          have := hD _ hnl
          unfold statF
          simp only
          rw [if_neg (by omega)]; exact this
        have hwb : watF T (hat hs n) ≤ 2000000 := by
          have := hO n hn
          unfold watF; split <;> omega
        have SC := fun W (hk : Keep w W) => statL_c gt (hat hs n).node T W (hV.tree.tr.keep hk) hnl
        have WC := fun W (hk : Keep w W) => writeAt_c B gt (hat hs n).node (watF T (hat hs n)) d fp T W (hV.tree.keep hk) hnl hT hU (by omega) (by omega) (by have := hD _ hnl; omega) hkd
        obtain ⟨c0, c1⟩ := hV.fs.head
        obtain ⟨d0, d1, -, d3, -⟩ := hV.fs.cell hn
        have HD := Hid.mk (fun W (f : FSW W gf gt u hs) => (f.cell hn).1)
        have HW : Hid (watF T (hat hs n) = if nob (hat hs n).flags 32 = false then (statF T (hat hs n).node).size else (hat hs n).off) := Hid.mk rfl
        have q1 : ((d.length : Int) == 0) = false := by
          have : d.length ≠ 0 := fun a => hd0 (List.length_eq_zero_iff.1 a)
          simp; omega
        generalize writeT T (hat hs n).node (watF T (hat hs n)) d = X at *
        obtain ⟨T', er⟩ := X
        simp only at WC hR
        obtain ⟨H1, hH1⟩ : ∃ H1, H1 = hs.set n { hat hs n with off := watF T (hat hs n) + d.length } := ⟨_, rfl⟩
        rw [← hH1] at hR
        have HV := Hid.mk hR
        have HVO : Hid (∀ fp1 W, VW B fp1 W gf gt u hs T' → VW B fp1 (W.setCell ⟨gf, 2 + n * 5 + 3, none⟩ (.int .i64 ((watF T (hat hs n) + d.length : Nat) : Int))) gf gt u H1 T' ∧ Stp (fpV fp1 gf) (fpV fp1 gf) W (W.setCell ⟨gf, 2 + n * 5 + 3, none⟩ (.int .i64 ((watF T (hat hs n) + d.length : Nat) : Int)))) := Hid.mk (fun fp1 W V => by rw [hH1]; exact V.off hn _)
        clear hR hH1
        have e5 : IntKind.i64.wrap ((watF T (hat hs n) : Int) + d.length) = ((watF T (hat hs n) + d.length : Nat) : Int) := by rw [IntKind.wrap_i64] <;> omega
        generalize watF T (hat hs n) + d.length = w1 at *
        generalize watF T (hat hs n) = wa at *
        generalize (statF T (hat hs n).node).size = sz at *
        generalize (at' T (hat hs n).node).kind = kd at *
        generalize (at' T (hat hs n).node).mode = md at *
        generalize (at' T (hat hs n).node).links = lk at *
        generalize hoe : (hat hs n).off = o0 at *
        generalize hfe : (hat hs n).flags = fl at *
        generalize hne : (hat hs n).node = nd at *
        clear hoe hne hfe hok hdr hV hN hF hD hO hd0
        obtain ⟨b, hb⟩ : ∃ b, b = nob fl 32 := ⟨_, rfl⟩
        rw [← hb] at HW
        unfold nob at hb
        have f32 : (bits .and .i64 fl 32 != 0) = !b := by rw [hb]; rfl
        clear hb
        go_enter Try.func36, Try.ntmps36
        go_wp2_with fail
        refine GC.mono ?_
        rintro e w0 ⟨rfl, rfl⟩
        obtain ⟨W0, hW0⟩ : ∃ W0, W0 = w0 := ⟨_, rfl⟩
        subst hW0
        go_upto_if 32 with fail
        go_cut [10] from 33 to 42 (fun av wx => av = .int .i64 (wa : Nat) ∧ Keep W0 wx)
        case first =>
          cases b with
          | true =>
            have h1 : Hid (wa = o0) := Hid.mk (by simpa using HW.out)
            go_wp2_with fail
            go_meet
            case rel => rw [h1.out]; exact ⟨rfl, Keep.refl _⟩
          | false =>
            have h1 : Hid (wa = sz) := Hid.mk (by simpa using HW.out)
            go_upto_region 8 with fail
            go_region_held3 (fun W => W.cell? ⟨gf, 0, none⟩ = some (.pointer (some ⟨gt, 0, none⟩)) ∧ W.cell? ⟨gf, 2 + n * 5, none⟩ = some (.int .i64 (nd : Nat)))
              (with_reducible first | assumption | exact ⟨c0, d0⟩ | exact ⟨(Keep.refl W0).drew.cell c0, (Keep.refl W0).drew.cell d0⟩ | exact ⟨Q1.cell c0, Q1.cell d0⟩)
              ((go_at_call 59; refine (SC _ (Keep.refl W0).drew).mono ?_; rintro x y ⟨rfl, qq⟩; have Q1 : Keep W0 y := (Keep.refl W0).drew.trans qq))
            go_wp2_with fail
            go_meet
            case rel => rw [h1.out]; exact ⟨rfl, Q1⟩
        case rest =>
          obtain ⟨rfl, k1⟩ := hcut
          have H1 := Hid.mk (HH.out.keep k1)
          replace c0 := k1.cell c0
          replace d0 := k1.cell d0
          obtain ⟨W1, hW1⟩ : ∃ W1, W1 = wc := ⟨_, rfl⟩
          subst hW1
          go_upto_region 9 with fail
          go_cut [9] from 43 to 53 (fun ev wx => ev = .int .i64 er ∧ ∃ fp1, VW B fp1 wx gf gt u hs T' ∧ Stp (fpV fp gf) (fpV fp1 gf) W0 wx)
          case first =>
            go_region_held3 (fun W => W.cell? ⟨gf, 0, none⟩ = some (.pointer (some ⟨gt, 0, none⟩)) ∧ W.cell? ⟨gf, 2 + n * 5, none⟩ = some (.int .i64 (nd : Nat)))
              (with_reducible first | assumption | exact ⟨c0, d0⟩ | exact ⟨(Keep.refl W1).drew.cell c0, (Keep.refl W1).drew.cell d0⟩ | exact ⟨V1.fs.head.1, HD.out _ V1.fs⟩)
              ((go_at_call 85; refine (WC _ k1.drew).mono ?_; rintro x y ⟨fp1, rfl, t1, s1⟩; obtain ⟨V1, s2⟩ := (HH.out.keep k1.drew).step t1 s1))
            go_wp2_with fail
            go_meet
            case rel => exact ⟨rfl, fp1, V1, (Stp.keep k1.drew).trans s2⟩
          case rest =>
            obtain ⟨rfl, fp1, V1, s1⟩ := hcut
            by_cases her : er = 0
            · subst her
              have HV2 := HV.out
              rw [if_neg (by simp)] at HV2
              have HV3 := Hid.mk HV2
              obtain ⟨-, -, -, q3, -⟩ := V1.fs.cell hn
              have z3 := V1.fs.arr.frozen (2 + n * 5 + 3)
              obtain ⟨V2, s2⟩ := HVO.out _ _ V1
              have HV4 := Hid.mk V2
              have HS4 := Hid.mk (s1.trans s2)
              clear V1 V2 s1 s2 HV HV2 WC SC GC HVO
              go_wp2_with fail
              go_ret2
              rw [HV3.out]
              exact ⟨fp1, rfl, HV4.out, HS4.out⟩
            · have HV2 := HV.out
              rw [if_pos her] at HV2
              have HV3 := Hid.mk HV2
              have z : (er != 0) = true := by simpa using her
              have HV4 := Hid.mk V1
              have HS4 := Hid.mk s1
              clear V1 s1 HV HV2 WC SC GC her
              go_wp2_with fail
              go_ret2
              rw [HV3.out]
              exact ⟨fp1, rfl, HV4.out, HS4.out⟩
end Go.Proofs.Qxb6500767a
