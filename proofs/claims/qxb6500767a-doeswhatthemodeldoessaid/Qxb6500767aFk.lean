/- unionvfs: Close. -/
import Derived.Test.Qxb6500767aFj
import Derived.Test.Qxb6500767aFc
namespace Go.Proofs.Qxb6500767a
open Go.RowKit Go.Qm
set_option linter.unusedVariables false
set_option linter.unusedSimpArgs false
attribute [local go_sem ↓] Go.wp_at_zero Go.wp_at_succ
def clr (u n : Nat) : Nat := u &&& (4294967295 - 2 ^ n)
theorem clr_lt {u : Nat} (n : Nat) (h : u < 2 ^ 32) : clr u n < 2 ^ 32 := Nat.lt_of_le_of_lt Nat.and_le_left h
theorem clr_bit {u n i : Nat} (hn : n < 32) (hi : i < 32) : (clr u n).testBit i = (u.testBit i && !decide (n = i)) := by
  have h1 : 2 ^ n < 2 ^ 32 := Nat.pow_lt_pow_right (by omega) hn
  unfold clr
  rw [Nat.testBit_and, not_bit h1 hi, Nat.testBit_two_pow]
theorem bit_clr (u n : Nat) (hu : u < 2 ^ 32) (hn : n < 32) : bits .andNot .u32 (u : Int) ((2 : Int) ^ n % 4294967296) = ((clr u n : Nat) : Int) := by
  have h1 : 2 ^ n < 2 ^ 32 := Nat.pow_lt_pow_right (by omega) hn
  have e0 : (2 : Int) ^ n % 4294967296 = ((2 ^ n : Nat) : Int) := by
    have : (2 : Int) ^ n = ((2 ^ n : Nat) : Int) := by push_cast; rfl
    have h1' : (2 ^ n : Nat) < 4294967296 := h1
    rw [this]
    generalize (2 ^ n : Nat) = x at *
    omega
  rw [e0]
  have e : (BitVec.ofInt 32 (u : Int) &&& ~~~BitVec.ofInt 32 ((2 ^ n : Nat) : Int)).toNat = clr u n := by
    rw [BitVec.ofInt_natCast, BitVec.ofInt_natCast, BitVec.toNat_and, BitVec.toNat_not, BitVec.toNat_ofNat, BitVec.toNat_ofNat, Nat.mod_eq_of_lt hu, Nat.mod_eq_of_lt h1]
    rfl
  show IntKind.u32.wrap ((BitVec.ofInt 32 (u : Int) &&& ~~~BitVec.ofInt 32 ((2 ^ n : Nat) : Int)).toNat : Int) = _
  rw [e]
  have := clr_lt n hu
  generalize clr u n = x at *
  simp [IntKind.wrap, IntKind.signed, IntKind.bits]
  omega
/-- A handle is zeroed. -/
theorem FSW.zero {w : World} {gf gt u : Nat} {hs : List Hd} (h : FSW w gf gt u hs) {n : Nat} (hn : n < 32) : FSW (((((w.setCell ⟨gf, 2 + n * 5, none⟩ (.int .i64 0)).setCell ⟨gf, 2 + n * 5 + 1, none⟩ (.int .i64 0)).setCell ⟨gf, 2 + n * 5 + 2, none⟩ (.bool false)).setCell ⟨gf, 2 + n * 5 + 3, none⟩ (.int .i64 0)).setCell ⟨gf, 2 + n * 5 + 4, none⟩ (str [])) gf gt u (hs.set n hd0) := by
  have hl : n < hs.length := by rw [h.len]; exact hn
  have r1 := h.seth hn (j := 0) (by omega) { hat hs n with node := 0 } (.int .i64 0) rfl
  have r2 := r1.seth hn (j := 1) (by omega) { hat hs n with node := 0, flags := 0 } (.int .i64 0) (by rw [hat_set hl]; rfl)
  rw [List.set_set] at r2
  have r3 := r2.seth hn (j := 2) (by omega) { hat hs n with node := 0, flags := 0, dir := false } (.bool false) (by rw [hat_set hl]; rfl)
  rw [List.set_set] at r3
  have r4 := r3.seth hn (j := 3) (by omega) { hat hs n with node := 0, flags := 0, dir := false, off := 0 } (.int .i64 0) (by rw [hat_set hl]; rfl)
  rw [List.set_set] at r4
  have r5 := r4.seth hn (j := 4) (by omega) hd0 (str []) (by rw [hat_set hl]; rfl)
  rw [List.set_set, Nat.add_zero] at r5
  exact r5
def clsF (u : Nat) (hs : List Hd) (T : List Nd) (h : Int) : Nat × List Hd × List Nd × Int :=
  if getOK u hs h 0 = false then (u, hs, T, 1) else (clr u h.toNat, hs.set h.toNat hd0, releaseF T (hat hs h.toNat).node, 0)
set_option maxRecDepth 3000 in
set_option maxHeartbeats 2000000 in
theorem vClose_c (B gf gt u : Nat) (h : Int) (fp : Nat → Prop) (hs : List Hd) (T : List Nd) (w : World) (hV : VW B fp w gf gt u hs T) (hN : HNode u hs T) (hO : ∀ n, n < 32 → u.testBit n = true → 1 ≤ (at' T (hat hs n).node).opens ∧ (at' T (hat hs n).node).opens ≤ 1000000) :
    Calls Try.prog 32 #[.pointer (some ⟨gf, 0, none⟩), .int .i64 h] w fun e w' => RetV B fp w gf gt (clsF u hs T h).1 (clsF u hs T h).2.1 (clsF u hs T h).2.2.1 (.returned (.int .i64 (clsF u hs T h).2.2.2)) e w' := by
  have HH := Hid.mk hV
  have GC := get_c gf gt u hs h 0 w hV.fs
  obtain ⟨R, hR⟩ : ∃ R, R = clsF u hs T h := ⟨_, rfl⟩
  rw [← hR]
  unfold clsF at hR
  unfold getV at GC
  cases hok : getOK u hs h 0 with
  | false =>
    rw [if_pos hok] at hR
    rw [if_neg (by rw [hok]; decide)] at GC
    have HV := Hid.mk hR
    clear hR hok hV
    go_enter Try.func32, Try.ntmps32
    go_wp2_with fail
    refine GC.mono ?_
    rintro e w0 ⟨rfl, rfl⟩
    go_wp2_with fail
    go_ret
    rw [HV.out]
    exact RetV.of HH.out (Keep.refl _) _
  | true =>
    rw [if_neg (by rw [hok]; decide)] at hR
    rw [if_pos hok] at GC
    obtain ⟨n, rfl, hn, htb⟩ := getOK_lt hok
    rw [Int.toNat_natCast] at GC hR
    have HV := Hid.mk hR
    have hnl := hN n hn htb
    have hoo := hO n hn htb
    have CC := fun W (hk : Keep w W) => release_c B gt (hat hs n).node fp T W (hV.tree.keep hk) hnl hoo.1 hoo.2
    obtain ⟨c0, c1⟩ := hV.fs.head
    obtain ⟨d0, -⟩ := hV.fs.cell hn
    have HD := Hid.mk (fun W (f : FSW W gf gt u hs) => (f.cell hn).1)
    have hu := hV.fs.lt
    generalize releaseF T (hat hs n).node = T' at *
    generalize hnd : (hat hs n).node = nd at CC d0 HD hnl hoo
    clear hR hok hV hN hO hnd
    have n0 : (0 : Int) ≤ n := by omega
    have n32 : (n : Int) < 32 := by omega
    go_enter Try.func32, Try.ntmps32
    go_wp2_with fail
    refine GC.mono ?_
    rintro e w0 ⟨rfl, rfl⟩
    obtain ⟨W0, hW0⟩ : ∃ W0, W0 = w0 := ⟨_, rfl⟩
    subst hW0
    go_upto_region 4 with fail
    go_cut [24] from 16 to 24 (fun _ wx => ∃ fp1, VW B fp1 wx gf gt u hs T' ∧ Stp (fpV fp gf) (fpV fp1 gf) W0 wx)
    case first =>
      go_region_held3 (fun W => W.cell? ⟨gf, 0, none⟩ = some (.pointer (some ⟨gt, 0, none⟩)) ∧ W.cell? ⟨gf, 2 + n * 5, none⟩ = some (.int .i64 (nd : Nat)))
        (first | assumption | exact ⟨c0, d0⟩ | exact ⟨V1.fs.head.1, HD.out _ V1.fs⟩)
        ((go_at_call 84; refine (CC _ (Keep.refl W0).drew).mono ?_; rintro x y ⟨fp1, rfl, t1, s1⟩; obtain ⟨V1, s2⟩ := (HH.out.keep (Keep.refl W0).drew).step t1 s1))
      go_wp2_with fail
      go_meet
      case rel => exact ⟨fp1, V1, (Stp.keep (Keep.refl W0).drew).trans s2⟩
    case rest =>
      obtain ⟨fp1, V1, s1⟩ := hcut
      obtain ⟨q0, q1, q2, q3, q4⟩ := V1.fs.cell hn
      have z0 := V1.fs.arr.frozen (2 + n * 5)
      have z1 := V1.fs.arr.frozen (2 + n * 5 + 1)
      have z2 := V1.fs.arr.frozen (2 + n * 5 + 2)
      have z3 := V1.fs.arr.frozen (2 + n * 5 + 3)
      have z4 := V1.fs.arr.frozen (2 + n * 5 + 4)
      have FZ := V1.fs.zero hn
      have F0 := Fr.refl (fun q => q = gf) wc
      have FR := ((((F0.setCell (p := ⟨gf, 2 + n * 5, none⟩) (Or.inl rfl) (.int .i64 0)).setCell (p := ⟨gf, 2 + n * 5 + 1, none⟩) (Or.inl rfl) (.int .i64 0)).setCell (p := ⟨gf, 2 + n * 5 + 2, none⟩) (Or.inl rfl) (.bool false)).setCell (p := ⟨gf, 2 + n * 5 + 3, none⟩) (Or.inl rfl) (.int .i64 0)).setCell (p := ⟨gf, 2 + n * 5 + 4, none⟩) (Or.inl rfl) (str [])
      obtain ⟨V2, s2⟩ := V1.hset FZ FR
      have r1 := V2.fs.head.2
      have y1 := V2.fs.arr.frozen 1
      have bc := bit_clr u n hu hn
      have FU := V2.fs.setu (clr_lt n hu)
      obtain ⟨V3, s3⟩ := V2.hset FU ((Fr.refl (fun q => q = gf) _).setCell (p := ⟨gf, 1, none⟩) (Or.inl rfl) _)
      have HV3 := Hid.mk V3
      have HS3 := Hid.mk (s1.trans (s2.trans s3))
      clear V3 s3 FU V2 s2 FR F0 FZ V1 s1 CC GC HD HH
      go_wp2_with fail
      go_ret
      rw [HV.out]
      exact ⟨fp1, rfl, HV3.out, HS3.out⟩
end Go.Proofs.Qxb6500767a
