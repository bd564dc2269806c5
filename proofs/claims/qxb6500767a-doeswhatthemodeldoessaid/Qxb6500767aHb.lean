/- unionvfs: CloseAll. -/
import Derived.Test.Qxb6500767aSmall
import Derived.Test.Qxb6500767aGk
namespace Go.Proofs.Qxb6500767a
open Go.RowKit Go.Qm
set_option linter.unusedVariables false
set_option linter.unusedSimpArgs false
attribute [local go_sem ↓] Go.wp_at_zero Go.wp_at_succ
theorem bit_and_ne (u h : Nat) (hu : u < 2 ^ 32) (hh : h < 32) : (bits .and .u32 (u : Int) ((2 : Int) ^ h % 4294967296) != 0) = u.testBit h := by
  have := bit_and u h hu hh
  rw [bne, this, Bool.not_not]
def clsS (s : Stt) (h : Nat) : Stt := ⟨(clsF s.u s.hs s.T h).1, (clsF s.u s.hs s.T h).2.1, (clsF s.u s.hs s.T h).2.2.1⟩
def clN (s : Stt) (n : Nat) : Stt := (List.range n).foldl clsS s
theorem clN_succ (s : Stt) (n : Nat) : clN s (n + 1) = clsS (clN s n) n := by unfold clN; rw [List.range_succ, List.foldl_append]; rfl
theorem clN_si {k : Nat} {s : Stt} (si : SI k s.u s.hs s.T) : ∀ n, SI k (clN s n).u (clN s n).hs (clN s n).T
  | 0 => si
  | n + 1 => by rw [clN_succ]; exact cls_si (clN_si si n) n
theorem clsS_shut {s : Stt} {n : Nat} (hn : n < 32) (hb : s.u.testBit n = false) : clsS s n = s := by
  have : getOK s.u s.hs (n : Int) 0 = false := by
    rw [getOK_zero]; unfold opn; rw [Int.toNat_natCast, hb]; simp
  unfold clsS clsF
  simp only [this]
  rfl
set_option maxRecDepth 3000 in
set_option maxHeartbeats 4000000 in
theorem closeAll_c {B gf gt k : Nat} {fp : Nat → Prop} {w : World} {s : Stt} (h : VW B fp w gf gt s.u s.hs s.T) (si : SI k s.u s.hs s.T) :
    Calls Try.prog 27 #[.pointer (some ⟨gf, 0, none⟩)] w fun e w' => RetV B fp w gf gt (clN s 32).u (clN s 32).hs (clN s 32).T (.returned (.tuple #[])) e w' := by
  have HH := Hid.mk h
  clear h
  go_enter Try.func27, Try.ntmps27
  go_wp2_with fail
  go_loopg [2] 32 (fun gk iv wr => ∃ (n : Nat) (fp1 : Nat → Prop), n + gk = 32 ∧ iv = .int .i64 n ∧ VW B fp1 wr gf gt (clN s n).u (clN s n).hs (clN s n).T ∧ Stp (fpV fp gf) (fpV fp1 gf) w wr)
  case atStart => exact ⟨0, fp, by omega, rfl, HH.out, Stp.refl _ _⟩
  case round =>
    obtain ⟨n, fp1, hk, rfl, V, st⟩ := hrel
    have HK := Hid.mk hk
    have HST := Hid.mk st
    have HV := Hid.mk V
    by_cases hlt : n < 32
    · have i1 : (n : Int) < 32 := by omega
      have i0 : (0 : Int) ≤ n := by omega
      have c1 := V.fs.head.2
      have bn := bit_and_ne (clN s n).u n V.fs.lt hlt
      have si2 := clN_si si n
      have CC := fun W (hk : Keep wr W) => vClose_c B gf gt (clN s n).u n fp1 (clN s n).hs (clN s n).T W (V.keep hk) si2.h.node (fun m hm hb => ⟨si2.h.opos hm hb, by have := si2.h.olt (hat (clN s n).hs m).node; omega⟩)
      have HS := Hid.mk (clN_succ s n)
      have HSH := Hid.mk (clsS_shut (s := clN s n) hlt)
      unfold clsS at HS HSH
      generalize clN s n = s1 at *
      cases hb : s1.u.testBit n with
      | true =>
        rw [hb] at bn
        clear V st hk hb
        generalize s1.u = u1 at *
        go_wp2_with fail
        refine (CC _ (Keep.refl _)).mono ?_
        rintro e w1 ⟨fp2, rfl, V2, s2⟩
        have HV2 := Hid.mk V2
        clear V2 CC
        go_wp2_with fail
        go_roundg (gk - 1)
        case measure => have := HK.out; omega
        case rel => exact ⟨n + 1, fp2, by have := HK.out; omega, by go_num, by rw [HS.out]; exact HV2.out, HST.out.trans s2⟩
      | false =>
        rw [hb] at bn
        have HE := Hid.mk (HSH.out hb)
        clear V st hk hb CC
        generalize hu1 : s1.u = u1 at bn c1
        go_wp2_with fail
        go_roundg (gk - 1)
        case measure => have := HK.out; omega
        case rel => exact ⟨n + 1, fp1, by have := HK.out; omega, by go_num, by rw [HS.out, HE.out]; exact HV.out, HST.out⟩
    · have i1 : ¬ (n : Int) < 32 := by omega
      have h32 : n = 32 := by omega
      subst h32
      clear V st hk
      go_wp2_with fail
      go_end0
      exact ⟨fp1, rfl, HV.out, HST.out⟩
end Go.Proofs.Qxb6500767a
