/- unionvfs: Chmod, Truncate, Readlink. -/
import Derived.Test.Qxb6500767aFf
namespace Go.Proofs.Qxb6500767a
open Go.RowKit Go.Qm
set_option linter.unusedVariables false
set_option linter.unusedSimpArgs false
attribute [local go_sem ↓] Go.wp_at_zero Go.wp_at_succ
def chpT (T : List Nd) (path : List UInt8) (mode : Int) : List Nd × Int :=
  if vmB mode = false then (T, 2) else if (pathF T path true).2 ≠ 0 then (T, (pathF T path true).2) else (T.set (pathF T path true).1 { at' T (pathF T path true).1 with mode := mode }, 0)
set_option maxRecDepth 3000 in
set_option maxHeartbeats 2000000 in
theorem vChmod_c (B gf gt u : Nat) (path : List UInt8) (mode : Int) (fp : Nat → Prop) (hs : List Hd) (T : List Nd) (w : World) (h : VW B fp w gf gt u hs T) (ok : TOK T) (hl : path.length ≤ 100000) :
    Calls Try.prog 41 #[.pointer (some ⟨gf, 0, none⟩), str path, .int .i64 mode] w fun e w' => RetV B fp w gf gt u hs (chpT T path mode).1 (.returned (.int .i64 (chpT T path mode).2)) e w' := by
  have HF := Hid.mk (fun W (hk : Keep w W) => (h.fs.keep hk).head.1)
  have c0 := HF.out _ (Keep.refl w)
  have HH := Hid.mk h
  have VM := fun W => validMode_c mode W
  obtain ⟨R, hR⟩ : ∃ R, R = chpT T path mode := ⟨_, rfl⟩
  rw [← hR]
  unfold chpT at hR
  have hn := pathF_lt ok path true
  have WC := walk_c gt T true path w h.tree.tr ok hl
  have CC := fun W (hk : Keep w W) => chmod_c B gt (pathF T path true).1 mode fp T W (h.tree.keep hk) hn
  obtain ⟨⟨n, er⟩, hp⟩ : ∃ p, p = pathF T path true := ⟨_, rfl⟩
  rw [← hp] at WC hn CC hR
  simp only at WC hn CC hR
  clear hp h ok
  cases hv : vmB mode with
  | false =>
    rw [if_pos hv] at hR
    rw [hv] at VM
    have HV := Hid.mk hR
    clear hR hv CC
    go_enter Try.func41, Try.ntmps41
    go_wp2_with fail
    refine (VM _).mono ?_
    rintro e w0 ⟨rfl, rfl⟩
    go_wp2_with fail
    go_ret
    rw [HV.out]
    exact RetV.of HH.out (Keep.refl _) _
  | true =>
    rw [if_neg (by rw [hv]; decide)] at hR
    rw [hv] at VM
    clear hv
    by_cases her : er = 0
    · subst her
      rw [if_neg (by simp)] at hR
      have HV := Hid.mk hR
      generalize T.set n { at' T n with mode := mode } = T' at *
      clear hR
      go_enter Try.func41, Try.ntmps41
      go_wp2_with fail
      refine (VM _).mono ?_
      rintro e w0 ⟨rfl, rfl⟩
      go_wp2_with fail
      refine WC.mono ?_
      rintro e w1 ⟨rfl, k1⟩
      replace c0 := HF.out _ k1
      go_wp2_with fail
      refine (CC _ k1).mono ?_
      rintro e w2 ⟨fp1, rfl, t1, s1⟩
      obtain ⟨v1, s2⟩ := (HH.out.keep k1).step t1 s1
      go_wp2_with fail
      go_ret
      rw [HV.out]
      exact ⟨fp1, rfl, v1, (Stp.keep k1).trans s2⟩
    · rw [if_pos her] at hR
      have HV := Hid.mk hR
      have q1 : (er != 0) = true := by simp [her]
      clear hR CC
      go_enter Try.func41, Try.ntmps41
      go_wp2_with fail
      refine (VM _).mono ?_
      rintro e w0 ⟨rfl, rfl⟩
      go_wp2_with fail
      refine WC.mono ?_
      rintro e w1 ⟨rfl, k1⟩
      go_wp2_with fail
      go_ret
      rw [HV.out]
      exact RetV.of HH.out k1 _
def trpT (T : List Nd) (path : List UInt8) (size : Int) : List Nd × Int :=
  if vsB size = false then (T, 2) else if (pathF T path true).2 ≠ 0 then (T, (pathF T path true).2)
  else if (at' T (pathF T path true).1).kind = 2 then (T, 8) else if nob (at' T (pathF T path true).1).mode 128 = true then (T, 11) else resT T (pathF T path true).1 size.toNat
set_option maxRecDepth 3000 in
set_option maxHeartbeats 2000000 in
theorem vTruncate_c (B gf gt u : Nat) (path : List UInt8) (size : Int) (fp : Nat → Prop) (hs : List Hd) (T : List Nd) (w : World) (h : VW B fp w gf gt u hs T) (ok : TOK T) (hU : usedB T ≤ 1000000) (hD : ∀ i, i < T.length → (at' T i).data.length ≤ 2 ^ 22) (hl : path.length ≤ 100000) :
    Calls Try.prog 42 #[.pointer (some ⟨gf, 0, none⟩), str path, .int .i64 size] w fun e w' => RetV B fp w gf gt u hs (trpT T path size).1 (.returned (.int .i64 (trpT T path size).2)) e w' := by
  have HF := Hid.mk (fun W (hk : Keep w W) => (h.fs.keep hk).head.1)
  have c0 := HF.out _ (Keep.refl w)
  have HH := Hid.mk h
  have VS := fun W => validSize_c size W
  obtain ⟨R, hR⟩ : ∃ R, R = trpT T path size := ⟨_, rfl⟩
  rw [← hR]
  unfold trpT at hR
  have hn := pathF_lt ok path true
  have WC := walk_c gt T true path w h.tree.tr ok hl
  have SC := fun W (hk : Keep w W) => statL_c gt (pathF T path true).1 T W (h.tree.tr.keep hk) hn
  cases hv : vsB size with
  | false =>
    rw [if_pos hv] at hR
    rw [hv] at VS
    have HV := Hid.mk hR
    clear hR hv SC WC h
    go_enter Try.func42, Try.ntmps42
    go_wp2_with fail
    refine (VS _).mono ?_
    rintro e w0 ⟨rfl, rfl⟩
    go_wp2_with fail
    go_ret
    rw [HV.out]
    exact RetV.of HH.out (Keep.refl _) _
  | true =>
    rw [if_neg (by rw [hv]; decide)] at hR
    have hsz : 0 ≤ size ∧ size ≤ 1048576 := by unfold vsB at hv; simpa using hv
    rw [hv] at VS
    obtain ⟨z, rfl⟩ : ∃ z : Nat, size = (z : Int) := ⟨size.toNat, by omega⟩
    rw [Int.toNat_natCast] at hR
    have RC := fun W (hk : Keep w W) => resize_c B gt (pathF T path true).1 z fp T W (h.tree.keep hk) hn ok.len hU (by omega) (hD _ hn)
    obtain ⟨⟨n, er⟩, hp⟩ : ∃ p, p = pathF T path true := ⟨_, rfl⟩
    rw [← hp] at WC hn SC RC hR
    simp only at WC hn SC RC hR
    generalize (statF T n).size = sz at *
    generalize (at' T n).kind = kd at *
    generalize (at' T n).mode = md at *
    generalize (at' T n).links = lk at *
    generalize resT T n z = M at *
    obtain ⟨T', rr⟩ := M
    simp only at RC
    clear hp h ok hv hsz
    by_cases her : er = 0
    · subst her
      rw [if_neg (by simp)] at hR
      by_cases hk : kd = 2
      · rw [if_pos hk] at hR
        have HV := Hid.mk hR
        subst hk
        clear hR RC
        go_enter Try.func42, Try.ntmps42
        go_wp2_with fail
        refine (VS _).mono ?_
        rintro e w0 ⟨rfl, rfl⟩
        go_wp2_with fail
        refine WC.mono ?_
        rintro e w1 ⟨rfl, k1⟩
        replace c0 := HF.out _ k1
        go_wp2_with fail
        refine (SC _ k1).mono ?_
        rintro e w2 ⟨rfl, k2⟩
        go_wp2_with fail
        go_ret
        rw [HV.out]
        exact RetV.of HH.out ((k1.trans k2).alloc _) _
      · rw [if_neg hk] at hR
        have z1 : ((kd : Int) == 2) = false := by simp; omega
        clear hk
        cases hb : nob md 128 with
        | true =>
          rw [if_pos hb] at hR
          have HV := Hid.mk hR
          have z2 : (bits .and .i64 md 128 == 0) = true := hb
          clear hR RC hb
          go_enter Try.func42, Try.ntmps42
          go_wp2_with fail
          refine (VS _).mono ?_
          rintro e w0 ⟨rfl, rfl⟩
          go_wp2_with fail
          refine WC.mono ?_
          rintro e w1 ⟨rfl, k1⟩
          replace c0 := HF.out _ k1
          go_wp2_with fail
          refine (SC _ k1).mono ?_
          rintro e w2 ⟨rfl, k2⟩
          go_wp2_with fail
          go_ret
          rw [HV.out]
          exact RetV.of HH.out ((k1.trans k2).alloc _) _
        | false =>
          rw [if_neg (by rw [hb]; decide)] at hR
          have HV := Hid.mk hR
          have z2 : (bits .and .i64 md 128 == 0) = false := hb
          clear hR hb
          go_enter Try.func42, Try.ntmps42
          go_wp2_with fail
          refine (VS _).mono ?_
          rintro e w0 ⟨rfl, rfl⟩
          go_wp2_with fail
          refine WC.mono ?_
          rintro e w1 ⟨rfl, k1⟩
          replace c0 := HF.out _ k1
          go_wp2_with fail
          refine (SC _ k1).mono ?_
          rintro e w2 ⟨rfl, k2⟩
          have K3 := (k1.trans k2).alloc (.cells #[.int .i64 (n : Nat), .int .i64 (kd : Nat), .int .i64 md, .int .i64 (lk : Nat), .int .i64 (sz : Nat)] 31)
          replace c0 := HF.out _ K3
          go_wp2_with fail
          refine (RC _ K3).mono ?_
          rintro e w4 ⟨fp1, rfl, t1, s1⟩
          obtain ⟨v1, s2⟩ := (HH.out.keep K3).step t1 s1
          go_wp2_with fail
          go_ret
          rw [HV.out]
          exact ⟨fp1, rfl, v1, (Stp.keep K3).trans s2⟩
    · rw [if_pos her] at hR
      have HV := Hid.mk hR
      have q1 : (er != 0) = true := by simp [her]
      clear hR RC
      go_enter Try.func42, Try.ntmps42
      go_wp2_with fail
      refine (VS _).mono ?_
      rintro e w0 ⟨rfl, rfl⟩
      go_wp2_with fail
      refine WC.mono ?_
      rintro e w1 ⟨rfl, k1⟩
      go_wp2_with fail
      go_ret
      rw [HV.out]
      exact RetV.of HH.out k1 _
end Go.Proofs.Qxb6500767a
