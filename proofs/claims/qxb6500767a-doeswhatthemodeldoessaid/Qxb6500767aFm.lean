/- unionvfs: Seek. -/
import Derived.Test.Qxb6500767aFj
import Derived.Test.Qxb6500767aFl
namespace Go.Proofs.Qxb6500767a
open Go.RowKit Go.Qm
set_option linter.unusedVariables false
set_option linter.unusedSimpArgs false
attribute [local go_sem ↓] Go.wp_at_zero Go.wp_at_succ
@[go_sem] theorem run_field31_1 (a b c d e : Value) (w : World) : (Instr.field 31 (.agg #[a, b, c, d, e]) 1).run Try.prog w = .ok b w := by
  unfold Instr.field
  have := Try.underlying31
  go_simp
  rfl
@[go_sem] theorem run_field31_4 (a b c d e : Value) (w : World) : (Instr.field 31 (.agg #[a, b, c, d, e]) 4).run Try.prog w = .ok e w := by
  unfold Instr.field
  have := Try.underlying31
  go_simp
  rfl
/-- Where a seek begins. -/
def bsF (T : List Nd) (x : Hd) (wh : Int) : Nat := if wh = 0 then 0 else if wh = 1 then x.off else (statF T x.node).size
/-- Seek: the handles it leaves, the answer, the refusal. -/
def skF (u : Nat) (hs : List Hd) (T : List Nd) (h off wh : Int) : List Hd × Int × Int :=
  if getOK u hs h 0 = false then (hs, 0, 1)
  else if (hat hs h.toNat).dir = true then (if off ≠ 0 ∨ wh ≠ 0 then (hs, 0, 2) else (hs.set h.toNat { hat hs h.toNat with cur := [] }, 0, 0))
  else if wh < 0 ∨ 2 < wh then (hs, 0, 2)
  else if off < -1048576 ∨ 1048576 < off ∨ vsB ((bsF T (hat hs h.toNat) wh : Nat) + off) = false then (hs, 0, 2)
  else (hs.set h.toNat { hat hs h.toNat with off := ((bsF T (hat hs h.toNat) wh : Nat) + off).toNat }, ((bsF T (hat hs h.toNat) wh : Nat) : Int) + off, 0)
set_option maxRecDepth 3000 in
set_option maxHeartbeats 4000000 in
theorem vSeek_c (B gf gt u : Nat) (h off wh : Int) (fp : Nat → Prop) (hs : List Hd) (T : List Nd) (w : World) (hV : VW B fp w gf gt u hs T) (hN : HNode u hs T) (hS : ∀ i, i < T.length → (statF T i).size ≤ 1000000) (hO : ∀ n, n < 32 → (hat hs n).off ≤ 10000000) :
    Calls Try.prog 31 #[.pointer (some ⟨gf, 0, none⟩), .int .i64 h, .int .i64 off, .int .i64 wh] w fun e w' => RetV B fp w gf gt u (skF u hs T h off wh).1 T (.returned (.tuple #[.int .i64 (skF u hs T h off wh).2.1, .int .i64 (skF u hs T h off wh).2.2])) e w' := by
  have HH := Hid.mk hV
  have GC := get_c gf gt u hs h 0 w hV.fs
  obtain ⟨R, hR⟩ : ∃ R, R = skF u hs T h off wh := ⟨_, rfl⟩
  rw [← hR]
  unfold skF at hR
  unfold getV at GC
  cases hok : getOK u hs h 0 with
  | false =>
    rw [if_pos hok] at hR
    rw [if_neg (by rw [hok]; decide)] at GC
    have HV := Hid.mk hR
    clear hR hok hV
    go_enter Try.func31, Try.ntmps31
    go_wp2_with fail
    refine GC.mono ?_
    rintro e w0 ⟨rfl, rfl⟩
    go_wp2_with fail
    go_ret2
    rw [HV.out]
    exact RetV.of HH.out (Keep.refl _) _
  | true =>
    rw [if_neg (by rw [hok]; decide)] at hR
    rw [if_pos hok] at GC
    obtain ⟨n, rfl, hn, htb⟩ := getOK_lt hok
    rw [Int.toNat_natCast] at GC hR
    have hnl := hN n hn htb
    obtain ⟨c0, c1⟩ := hV.fs.head
    obtain ⟨d0, -, d2, d3, d4⟩ := hV.fs.cell hn
    cases hdr : (hat hs n).dir with
    | true =>
      rw [if_pos hdr] at hR
      rw [hdr] at d2
      by_cases hz : off ≠ 0 ∨ wh ≠ 0
      · rw [if_pos hz] at hR
        have HV := Hid.mk hR
        clear hR hok hV hdr
        by_cases ho : off = 0
        · have hw : (wh != 0) = true := by simpa [ho] using hz
          subst ho
          clear hz
          go_enter Try.func31, Try.ntmps31
          go_wp2_with fail
          refine GC.mono ?_
          rintro e w0 ⟨rfl, rfl⟩
          go_wp2_with fail
          go_ret2
          rw [HV.out]
          exact RetV.of HH.out (Keep.refl _) _
        · have hw : (off != 0) = true := by simpa using ho
          clear hz ho
          go_enter Try.func31, Try.ntmps31
          go_wp2_with fail
          refine GC.mono ?_
          rintro e w0 ⟨rfl, rfl⟩
          go_wp2_with fail
          go_ret2
          rw [HV.out]
          exact RetV.of HH.out (Keep.refl _) _
      · rw [if_neg hz] at hR
        have ho : off = 0 := by omega
        have hw : wh = 0 := by omega
        subst ho hw
        have HV := Hid.mk hR
        have f4 := hV.fs.arr.frozen (2 + n * 5 + 4)
        have HX := Hid.mk (hV.cur hn [])
        clear hR hok hV hdr hz
        go_enter Try.func31, Try.ntmps31
        go_wp2_with fail
        refine GC.mono ?_
        rintro e w0 ⟨rfl, rfl⟩
        go_wp2_with fail
        go_ret2
        rw [HV.out]
        exact ⟨fp, rfl, HX.out.1, HX.out.2⟩
    | false =>
      rw [if_neg (by rw [hdr]; decide)] at hR
      rw [hdr] at d2
      by_cases hw : wh < 0 ∨ 2 < wh
      · rw [if_pos hw] at hR
        have HV := Hid.mk hR
        have z0 : (wh == 0) = false := by simp; omega
        have z1 : (wh == 1) = false := by simp; omega
        have z2 : (wh == 2) = false := by simp; omega
        clear hR hok hV hdr hw
        go_enter Try.func31, Try.ntmps31
        go_wp2_with fail
        refine GC.mono ?_
        rintro e w0 ⟨rfl, rfl⟩
        go_wp2_with fail
        go_ret2
        rw [HV.out]
        exact RetV.of HH.out (Keep.refl _) _
      · rw [if_neg hw] at hR
        have SC := fun W (hk : Keep w W) => statL_c gt (hat hs n).node T W (hV.tree.tr.keep hk) hnl
        have hsz := hS _ hnl
        have hoo := hO n hn
        have VO := Hid.mk (fun W (hk : Keep w W) x => (hV.keep hk).off hn x)
        have HFZ := Hid.mk (fun W (hk : Keep w W) => (hV.fs.keep hk).arr.frozen (2 + n * 5 + 3))
        have hbs : Hid (bsF T (hat hs n) wh = if wh = 0 then 0 else if wh = 1 then (hat hs n).off else (statF T (hat hs n).node).size) := Hid.mk rfl
        have hb : bsF T (hat hs n) wh ≤ 10000000 := by unfold bsF; split; omega; split <;> omega
        generalize bsF T (hat hs n) wh = bs at *
        generalize (statF T (hat hs n).node).size = sz at *
        generalize (at' T (hat hs n).node).kind = kd at *
        generalize (at' T (hat hs n).node).mode = md at *
        generalize (at' T (hat hs n).node).links = lk at *
        clear hok hV hdr hN hS hO
        have HR := Hid.mk hR
        have HVO := Hid.mk VO
        clear hR VO
        generalize hoe : (hat hs n).off = o0 at *
        generalize hne : (hat hs n).node = nd at *
        clear hoe hne
        go_enter Try.func31, Try.ntmps31
        go_wp2_with fail
        refine GC.mono ?_
        rintro e w0 ⟨rfl, rfl⟩
        obtain ⟨W0, hW0⟩ : ∃ W0, W0 = w0 := ⟨_, rfl⟩
        subst hW0
        go_upto_block 0 with fail
        go_cut [12] from 35 to 55 (fun bv wx => bv = .int .i64 (bs : Nat) ∧ Keep W0 wx)
        case first =>
          have hw3 : wh = 0 ∨ wh = 1 ∨ wh = 2 := by omega
          rcases hw3 with rfl | rfl | rfl
          · have hb0 : bs = 0 := by simpa using hbs.out
            go_wp2_with fail
            go_meet
            case rel => rw [hb0]; exact ⟨rfl, Keep.refl _⟩
          · have hb0 : Hid (bs = o0) := Hid.mk (by simpa using hbs.out)
            go_wp2_with fail
            go_meet
            case rel => rw [hb0.out]; exact ⟨rfl, Keep.refl _⟩
          · have hb0 : Hid (bs = sz) := Hid.mk (by simpa using hbs.out)
            go_upto_region 16 with fail
            go_region_held3 (fun W => W.cell? ⟨gf, 0, none⟩ = some (.pointer (some ⟨gt, 0, none⟩)) ∧ W.cell? ⟨gf, 2 + n * 5, none⟩ = some (.int .i64 (nd : Nat)))
              (first | assumption | exact ⟨c0, d0⟩ | exact ⟨Q1.cell c0, Q1.cell d0⟩)
              ((go_at_call 59; refine (SC _ (Keep.refl W0).drew).mono ?_; rintro x y ⟨rfl, qq⟩; have Q1 : Keep W0 y := (Keep.refl W0).drew.trans qq))
            go_wp2_with fail
            go_meet
            case rel => rw [hb0.out]; exact ⟨rfl, Q1⟩
        case rest =>
          obtain ⟨rfl, k1⟩ := hcut
          replace d3 := k1.cell d3
          have f3 := HFZ.out _ k1
          have HR2 := HR.out
          by_cases hr : off < -1048576 ∨ 1048576 < off
          · rw [if_pos (by omega)] at HR2
            have HV := Hid.mk HR2
            clear HR2
            by_cases hr1 : off < -1048576
            · have z1 : decide (off < -1048576) = true := decide_eq_true hr1
              clear hr hr1
              go_wp2_with fail
              go_ret2
              rw [HV.out]
              exact RetV.of HH.out k1 _
            · have z1 : decide (off < -1048576) = false := decide_eq_false hr1
              have z2 : decide (off > 1048576) = true := decide_eq_true (by omega)
              clear hr hr1
              go_wp2_with fail
              go_ret2
              rw [HV.out]
              exact RetV.of HH.out k1 _
          · have z1 : decide (off < -1048576) = false := decide_eq_false (by omega)
            have z2 : decide (off > 1048576) = false := decide_eq_false (by omega)
            have e5 : IntKind.i64.wrap ((bs : Int) + off) = (bs : Int) + off := by rw [IntKind.wrap_i64] <;> omega
            have VS := fun W => validSize_c ((bs : Int) + off) W
            cases hv : vsB ((bs : Int) + off) with
            | false =>
              rw [if_pos (Or.inr (Or.inr hv))] at HR2
              rw [hv] at VS
              have HV := Hid.mk HR2
              clear HR2 hv hr
              go_wp2_with fail
              refine (VS _).mono ?_
              rintro e w1 ⟨rfl, rfl⟩
              go_wp2_with fail
              go_ret2
              rw [HV.out]
              exact RetV.of HH.out k1 _
            | true =>
              have hsz : 0 ≤ (bs : Int) + off ∧ (bs : Int) + off ≤ 1048576 := by unfold vsB at hv; simpa using hv
              rw [if_neg (by rw [hv]; simp; omega)] at HR2
              rw [hv] at VS
              obtain ⟨z, hz⟩ : ∃ z : Nat, (bs : Int) + off = (z : Int) := ⟨((bs : Int) + off).toNat, by omega⟩
              rw [hz, Int.toNat_natCast] at HR2
              rw [hz] at VS
              replace e5 : IntKind.i64.wrap ((bs : Int) + off) = (z : Int) := by rw [e5, hz]
              have HV := Hid.mk HR2
              have HX := Hid.mk (HVO.out.out _ k1 z)
              clear HR2 hv hr HR hz hsz
              go_wp2_with fail
              refine (VS _).mono ?_
              rintro e w1 ⟨rfl, rfl⟩
              go_wp2_with fail
              go_ret2
              rw [HV.out]
              exact ⟨fp, rfl, HX.out.1, (Stp.keep k1).trans HX.out.2⟩
end Go.Proofs.Qxb6500767a
