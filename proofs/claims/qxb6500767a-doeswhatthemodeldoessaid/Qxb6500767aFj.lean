/- unionvfs: a handle is written; Read. -/
import Derived.Test.Qxb6500767aFi
namespace Go.Proofs.Qxb6500767a
open Go.RowKit Go.Qm
set_option linter.unusedVariables false
set_option linter.unusedSimpArgs false
attribute [local go_sem ↓] Go.wp_at_zero Go.wp_at_succ
theorem FSW.seth {w : World} {gf gt u : Nat} {hs : List Hd} (h : FSW w gf gt u hs) {n : Nat} (hn : n < 32) {j : Nat} (hj : j < 5) (x' : Hd) (v : Value) (hx : hdC x' = (hdC (hat hs n)).set j v) : FSW (w.setCell ⟨gf, 2 + n * 5 + j, none⟩ v) gf gt u (hs.set n x') := by
  have hl : n < hs.length := by rw [h.len]; exact hn
  have e : hat hs n = hs[n] := by unfold hat; rw [List.getD_eq_getElem?_getD, List.getElem?_eq_getElem hl]; rfl
  rw [e] at hx
  have A := h.arr.set (2 + n * 5 + j) v
  have e2 : (fsC gt u hs).set (2 + n * 5 + j) v = fsC gt u (hs.set n x') := by
    unfold fsC
    rw [List.set_append_right _ _ (by simp; omega)]
    simp only [List.length_cons, List.length_nil]
    rw [show 2 + n * 5 + j - (0 + 1 + 1) = n * 5 + j by omega, flat_set hdC_length hs n j hl hj x' v hx]
  rw [e2] at A
  exact ⟨A, by rw [List.length_set]; exact h.len, h.lt⟩
theorem FSW.setu {w : World} {gf gt u : Nat} {hs : List Hd} (h : FSW w gf gt u hs) {u' : Nat} (hu : u' < 2 ^ 32) : FSW (w.setCell ⟨gf, 1, none⟩ (.int .u32 (u' : Nat))) gf gt u' hs := ⟨h.arr.set 1 _, h.len, hu⟩
theorem hat_set {hs : List Hd} {n : Nat} (hn : n < hs.length) (x : Hd) : hat (hs.set n x) n = x := by unfold hat; rw [List.getD_eq_getElem?_getD, List.getElem?_set_self hn]; rfl
theorem hat_set_ne {hs : List Hd} {n m : Nat} (h : n ≠ m) (x : Hd) : hat (hs.set n x) m = hat hs m := by unfold hat; rw [List.getD_eq_getElem?_getD, List.getD_eq_getElem?_getD, List.getElem?_set_ne h]
/-- A number of an open handle is written. -/
theorem VW.off {B gf gt u : Nat} {fp : Nat → Prop} {w : World} {hs : List Hd} {T : List Nd} (h : VW B fp w gf gt u hs T) {n : Nat} (hn : n < 32) (x : Nat) : VW B fp (w.setCell ⟨gf, 2 + n * 5 + 3, none⟩ (.int .i64 (x : Nat))) gf gt u (hs.set n { hat hs n with off := x }) T ∧ Stp (fpV fp gf) (fpV fp gf) w (w.setCell ⟨gf, 2 + n * 5 + 3, none⟩ (.int .i64 (x : Nat))) :=
  h.hset (h.fs.seth hn (j := 3) (by omega) { hat hs n with off := x } (.int .i64 (x : Nat)) rfl) ((Fr.refl (fun q => q = gf) w).setCell (p := ⟨gf, 2 + n * 5 + 3, none⟩) (Or.inl rfl) _)
theorem VW.cur {B gf gt u : Nat} {fp : Nat → Prop} {w : World} {hs : List Hd} {T : List Nd} (h : VW B fp w gf gt u hs T) {n : Nat} (hn : n < 32) (x : List UInt8) : VW B fp (w.setCell ⟨gf, 2 + n * 5 + 4, none⟩ (str x)) gf gt u (hs.set n { hat hs n with cur := x }) T ∧ Stp (fpV fp gf) (fpV fp gf) w (w.setCell ⟨gf, 2 + n * 5 + 4, none⟩ (str x)) :=
  h.hset (h.fs.seth hn (j := 4) (by omega) { hat hs n with cur := x } (str x) rfl) ((Fr.refl (fun q => q = gf) w).setCell (p := ⟨gf, 2 + n * 5 + 4, none⟩) (Or.inl rfl) _)
/-- Read: the handles it leaves, the octets, the refusal. -/
def rdF (u : Nat) (hs : List Hd) (T : List Nd) (h m : Int) : List Hd × List UInt8 × Int :=
  if getOK u hs h 1 = false then (hs, [], 1) else if (hat hs h.toNat).dir = true then (hs, [], 8) else if m < 0 then (hs, [], 2)
  else (hs.set h.toNat { hat hs h.toNat with off := (hat hs h.toNat).off + (readF (at' T (hat hs h.toNat).node).data (hat hs h.toNat).off m.toNat).length }, readF (at' T (hat hs h.toNat).node).data (hat hs h.toNat).off m.toNat, 0)
set_option maxRecDepth 3000 in
set_option maxHeartbeats 2000000 in
theorem vRead_c (B gf gt u : Nat) (h m : Int) (fp : Nat → Prop) (hs : List Hd) (T : List Nd) (w : World) (hV : VW B fp w gf gt u hs T) (hN : HNode u hs T) (hD : ∀ i, i < T.length → (at' T i).data.length ≤ 1000000) (hO : ∀ n, n < 32 → (hat hs n).off ≤ 10000000) :
    Calls Try.prog 35 #[.pointer (some ⟨gf, 0, none⟩), .int .i64 h, .int .i64 m] w fun e w' => RetV B fp w gf gt u (rdF u hs T h m).1 T (.returned (.tuple #[str (rdF u hs T h m).2.1, .int .i64 (rdF u hs T h m).2.2])) e w' := by
  have HH := Hid.mk hV
  have GC := getFile_c gf gt u hs h 1 w hV.fs
  obtain ⟨R, hR⟩ : ∃ R, R = rdF u hs T h m := ⟨_, rfl⟩
  rw [← hR]
  unfold rdF at hR
  unfold getFV at GC
  cases hok : getOK u hs h 1 with
  | false =>
    rw [if_pos hok] at hR
    rw [if_neg (by rw [hok]; decide)] at GC
    have HV := Hid.mk hR
    clear hR hok hV
    go_enter Try.func35, Try.ntmps35
    go_wp2_with fail
    refine GC.mono ?_
    rintro e w0 ⟨rfl, rfl⟩
    go_wp2_with fail
    go_ret2
    rw [HV.out]
    exact RetV.of HH.out (Keep.refl _) _
  | true =>
    rw [if_neg (by rw [hok]; decide)] at hR
    rw [if_pos hok] at GC
    obtain ⟨n, rfl, hn, htb⟩ := getOK_lt hok
    rw [Int.toNat_natCast] at GC hR
    cases hdr : (hat hs n).dir with
    | true =>
      rw [if_pos hdr] at hR
      rw [if_pos hdr] at GC
      have HV := Hid.mk hR
      clear hR hok hV hdr
      go_enter Try.func35, Try.ntmps35
      go_wp2_with fail
      refine GC.mono ?_
      rintro e w0 ⟨rfl, rfl⟩
      go_wp2_with fail
      go_ret2
      rw [HV.out]
      exact RetV.of HH.out (Keep.refl _) _
    | false =>
      rw [if_neg (by rw [hdr]; decide)] at hR
      rw [if_neg (by rw [hdr]; decide)] at GC
      clear hdr
      by_cases hm : m < 0
      · rw [if_pos hm] at hR
        have HV := Hid.mk hR
        clear hR hok hV
        go_enter Try.func35, Try.ntmps35
        go_wp2_with fail
        refine GC.mono ?_
        rintro e w0 ⟨rfl, rfl⟩
        go_wp2_with fail
        go_ret2
        rw [HV.out]
        exact RetV.of HH.out (Keep.refl _) _
      · rw [if_neg hm] at hR
        have HV := Hid.mk hR
        have hnl := hN n hn htb
        have hol := hO n hn
        have hrl : (readF (at' T (hat hs n).node).data (hat hs n).off m.toNat).length ≤ 1000000 := by
          have := hD _ hnl
          unfold readF
          rw [List.length_take, List.length_drop]; omega
        have CC := fun W (hk : Keep w W) => readAt_c gt (hat hs n).node (hat hs n).off m T W (hV.tree.tr.keep hk) hnl (by omega) (by omega) (hD _ hnl)
        have VO := fun W (hk : Keep w W) => (hV.keep hk).off hn ((hat hs n).off + (readF (at' T (hat hs n).node).data (hat hs n).off m.toNat).length)
        obtain ⟨c0, c1⟩ := hV.fs.head
        obtain ⟨d0, -, -, d3, -⟩ := hV.fs.cell hn
        have HFZ := Hid.mk (fun W (hk : Keep w W) => (hV.fs.keep hk).arr.frozen (2 + n * 5 + 3))
        generalize readF (at' T (hat hs n).node).data (hat hs n).off m.toNat = M at *
        have e5 : IntKind.i64.wrap (((hat hs n).off : Int) + M.length) = (((hat hs n).off + M.length : Nat) : Int) := by rw [IntKind.wrap_i64] <;> omega
        generalize (hat hs n).off + M.length = o1 at *
        generalize (hat hs n).off = o0 at *
        generalize (hat hs n).node = nd at *
        have HVO := Hid.mk VO
        clear hR hok hV hN hD hO VO
        go_enter Try.func35, Try.ntmps35
        go_wp2_with fail
        refine GC.mono ?_
        rintro e w0 ⟨rfl, rfl⟩
        obtain ⟨W0, hW0⟩ : ∃ W0, W0 = w0 := ⟨_, rfl⟩
        subst hW0
        go_upto_region 6 with fail
        go_cut [10] from 22 to 35 (fun sv wx => sv = str M ∧ Keep W0 wx)
        case first =>
          go_region_held3 (fun W => W.cell? ⟨gf, 0, none⟩ = some (.pointer (some ⟨gt, 0, none⟩)) ∧ W.cell? ⟨gf, 2 + n * 5, none⟩ = some (.int .i64 (nd : Nat)) ∧ W.cell? ⟨gf, 2 + n * 5 + 3, none⟩ = some (.int .i64 (o0 : Nat)))
            (first | assumption | exact ⟨c0, d0, d3⟩ | exact ⟨Q1.cell c0, Q1.cell d0, Q1.cell d3⟩)
            ((go_at_call 77; refine (CC _ (Keep.refl W0).drew).mono ?_; rintro x y ⟨rfl, qq⟩; have Q1 : Keep W0 y := (Keep.refl W0).drew.trans qq))
          go_wp2_with fail
          go_meet
          case rel => exact ⟨rfl, Q1⟩
        case rest =>
          obtain ⟨rfl, k1⟩ := hcut
          replace d3 := k1.cell d3
          have f3 := HFZ.out _ k1
          obtain ⟨v1, s1⟩ := HVO.out _ k1
          have HV1 := Hid.mk v1
          have HS1 := Hid.mk s1
          clear v1 s1 HVO HFZ
          go_wp2_with fail
          go_ret2
          rw [HV.out]
          exact ⟨fp, rfl, HV1.out, (Stp.keep k1).trans HS1.out⟩
end Go.Proofs.Qxb6500767a
