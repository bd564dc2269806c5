/- unionvfs: Fstat, Readlink. -/
import Derived.Test.Qxb6500767aFi
namespace Go.Proofs.Qxb6500767a
open Go.RowKit Go.Qm
set_option linter.unusedVariables false
set_option linter.unusedSimpArgs false
attribute [local go_sem ↓] Go.wp_at_zero Go.wp_at_succ
def fstF (u : Nat) (hs : List Hd) (T : List Nd) (h : Int) : Sta × Int := if getOK u hs h 0 = false then (sta0, 1) else (statF T (hat hs h.toNat).node, 0)
set_option maxRecDepth 3000 in
set_option maxHeartbeats 2000000 in
theorem vFstat_c (B gf gt u : Nat) (h : Int) (fp : Nat → Prop) (hs : List Hd) (T : List Nd) (w : World) (hV : VW B fp w gf gt u hs T) (hN : HNode u hs T) :
    Calls Try.prog 24 #[.pointer (some ⟨gf, 0, none⟩), .int .i64 h] w fun e w' => e = .returned (staV (fstF u hs T h)) ∧ Keep w w' := by
  have K0 := (Keep.refl w).alloc (.cells #[.int .i64 0, .int .i64 0, .int .i64 0, .int .i64 0, .int .i64 0] 31)
  have A0 : Arr (w.alloc (.cells #[.int .i64 0, .int .i64 0, .int .i64 0, .int .i64 0, .int .i64 0] 31)) w.heap.size 31 [.int .i64 0, .int .i64 0, .int .i64 0, .int .i64 0, .int .i64 0] := Arr.new w 31 _
  have GC := get_c gf gt u hs h 0 _ (hV.fs.keep K0)
  obtain ⟨R, hR⟩ : ∃ R, R = fstF u hs T h := ⟨_, rfl⟩
  rw [← hR]
  unfold fstF at hR
  unfold getV at GC
  cases hok : getOK u hs h 0 with
  | false =>
    rw [if_pos hok] at hR
    rw [if_neg (by rw [hok]; decide)] at GC
    have HV := Hid.mk hR
    have HA0 := Hid.mk A0
    clear A0 hR hok hV
    go_enter Try.func24, Try.ntmps24
    go_wp2_with fail
    refine GC.mono ?_
    rintro e w0 ⟨rfl, hw0⟩
    rw [← hw0] at HA0 K0
    clear hw0 GC
    have A0 := HA0.out
    have a0 := A0.cell 0
    have a1 := A0.cell 1
    have a2 := A0.cell 2
    have a3 := A0.cell 3
    have a4 := A0.cell 4
    have f0 := A0.frozen 0
    have f1 := A0.frozen 1
    have f2 := A0.frozen 2
    have f3 := A0.frozen 3
    have f4 := A0.frozen 4
    simp only [List.getElem?_cons_zero, List.getElem?_cons_succ] at a0 a1 a2 a3 a4
    have A3 := ((((A0.set 0 (.int .i64 0)).set 1 (.int .i64 0)).set 2 (.int .i64 0)).set 3 (.int .i64 0)).set 4 (.int .i64 0)
    have K3 := ((((K0.setCell (p := ⟨w.heap.size, 0, none⟩) (Nat.le_refl _) (.int .i64 0)).setCell (p := ⟨w.heap.size, 1, none⟩) (Nat.le_refl _) (.int .i64 0)).setCell (p := ⟨w.heap.size, 2, none⟩) (Nat.le_refl _) (.int .i64 0)).setCell (p := ⟨w.heap.size, 3, none⟩) (Nat.le_refl _) (.int .i64 0)).setCell (p := ⟨w.heap.size, 4, none⟩) (Nat.le_refl _) (.int .i64 0)
    simp only [List.set_cons_zero, List.set_cons_succ] at A3
    have HA3 := Hid.mk A3
    have HK3 := Hid.mk K3
    clear A3 K3 A0
    go_wp2_with fail
    refine bodyPost_ret (v := .tuple #[.agg #[.int .i64 0, .int .i64 0, .int .i64 0, .int .i64 0, .int .i64 0], .int .i64 1]) (results_cell_row2 rfl _ _ w.heap.size 31 _ (0, 0) _ _ rfl rfl HA3.out Try.underlying31 rfl s31) rfl ⟨?_, HK3.out⟩
    rw [HV.out]; rfl
  | true =>
    rw [if_neg (by rw [hok]; decide)] at hR
    rw [if_pos hok] at GC
    obtain ⟨n, rfl, hn, htb⟩ := getOK_lt hok
    rw [Int.toNat_natCast] at GC hR
    have hnl := hN n hn htb
    unfold statF at hR
    have SC := fun W (hk : Keep w W) => statL_c gt (hat hs n).node T W (hV.tree.tr.keep hk) hnl
    have HF := Hid.mk (fun W (hk : Keep w W) => (hV.fs.keep hk).head.1)
    have HD := Hid.mk (fun W (hk : Keep w W) => ((hV.fs.keep hk).cell hn).1)
    have c0 := HF.out _ K0
    have d0 := HD.out _ K0
    change R = (⟨(hat hs n).node, (at' T (hat hs n).node).kind, (at' T (hat hs n).node).mode, (at' T (hat hs n).node).links, (statF T (hat hs n).node).size⟩, 0) at hR
    generalize (hat hs n).node = nd at *
    generalize (statF T nd).size = sz at *
    generalize (at' T nd).kind = kd at *
    generalize (at' T nd).mode = md at *
    generalize (at' T nd).links = lk at *
    have HV := Hid.mk hR
    have HA0 := Hid.mk A0
    clear hR hok hV hN A0
    go_enter Try.func24, Try.ntmps24
    go_wp2_with fail
    refine GC.mono ?_
    rintro e w0 ⟨rfl, hw0⟩
    rw [← hw0] at c0 d0 K0 HA0
    clear hw0 GC
    go_upto_region 4 with fail
    go_region_held3 (fun W => W.cell? ⟨gf, 0, none⟩ = some (.pointer (some ⟨gt, 0, none⟩)) ∧ W.cell? ⟨gf, 2 + n * 5, none⟩ = some (.int .i64 (nd : Nat)))
      (with_reducible first | assumption | exact ⟨c0, d0⟩ | exact ⟨HF.out _ K0.drew, HD.out _ K0.drew⟩ | exact ⟨HF.out _ K2, HD.out _ K2⟩ | exact ⟨HF.out _ HK3.out, HD.out _ HK3.out⟩)
      ((go_at_call 59; refine (SC _ K0.drew).mono ?_; rintro x y ⟨rfl, k2⟩
        have A2 := HA0.out.keep ((Keep.refl w0).drew.trans k2)
        have K2 := K0.drew.trans k2
        have a0 := A2.cell 0
        have a1 := A2.cell 1
        have a2 := A2.cell 2
        have a3 := A2.cell 3
        have a4 := A2.cell 4
        have f0 := A2.frozen 0
        have f1 := A2.frozen 1
        have f2 := A2.frozen 2
        have f3 := A2.frozen 3
        have f4 := A2.frozen 4
        simp only [List.getElem?_cons_zero, List.getElem?_cons_succ] at a0 a1 a2 a3 a4
        have A3 := ((((A2.set 0 (.int .i64 (nd : Nat))).set 1 (.int .i64 (kd : Nat))).set 2 (.int .i64 md)).set 3 (.int .i64 (lk : Nat))).set 4 (.int .i64 (sz : Nat))
        have K3 := ((((K2.setCell (p := ⟨w.heap.size, 0, none⟩) (Nat.le_refl _) (.int .i64 (nd : Nat))).setCell (p := ⟨w.heap.size, 1, none⟩) (Nat.le_refl _) (.int .i64 (kd : Nat))).setCell (p := ⟨w.heap.size, 2, none⟩) (Nat.le_refl _) (.int .i64 md)).setCell (p := ⟨w.heap.size, 3, none⟩) (Nat.le_refl _) (.int .i64 (lk : Nat))).setCell (p := ⟨w.heap.size, 4, none⟩) (Nat.le_refl _) (.int .i64 (sz : Nat))
        simp only [List.set_cons_zero, List.set_cons_succ] at A3
        have HA3 := Hid.mk A3
        have HK3 := Hid.mk K3
        clear A3 K3 A2))
    go_wp2_with fail
    refine bodyPost_ret (v := .tuple #[.agg #[.int .i64 (nd : Nat), .int .i64 (kd : Nat), .int .i64 md, .int .i64 (lk : Nat), .int .i64 (sz : Nat)], .int .i64 0]) (results_cell_row2 rfl _ _ w.heap.size 31 _ (0, 0) _ _ rfl rfl HA3.out Try.underlying31 rfl s31) rfl ⟨?_, HK3.out⟩
    rw [HV.out]; rfl
def rlkF (T : List Nd) (path : List UInt8) : List UInt8 × Int :=
  if (pathF T path false).2 ≠ 0 then ([], (pathF T path false).2) else if (at' T (pathF T path false).1).kind ≠ 3 then ([], 2)
  else (readF (at' T (pathF T path false).1).data 0 (statF T (pathF T path false).1).size, 0)
set_option maxRecDepth 3000 in
set_option maxHeartbeats 2000000 in
theorem vReadlink_c (B gf gt u : Nat) (path : List UInt8) (fp : Nat → Prop) (hs : List Hd) (T : List Nd) (w : World) (h : VW B fp w gf gt u hs T) (ok : TOK T) (hD : ∀ i, i < T.length → (at' T i).data.length ≤ 1000000) (hl : path.length ≤ 100000) :
    Calls Try.prog 43 #[.pointer (some ⟨gf, 0, none⟩), str path] w fun e w' => e = .returned (.tuple #[str (rlkF T path).1, .int .i64 (rlkF T path).2]) ∧ Keep w w' := by
  have HF := Hid.mk (fun W (hk : Keep w W) => (h.fs.keep hk).head.1)
  have c0 := HF.out _ (Keep.refl w)
  obtain ⟨R, hR⟩ : ∃ R, R = rlkF T path := ⟨_, rfl⟩
  rw [← hR]
  unfold rlkF at hR
  have hn := pathF_lt ok path false
  have WC := walk_c gt T false path w h.tree.tr ok hl
  have SC := fun W (hk : Keep w W) => statL_c gt (pathF T path false).1 T W (h.tree.tr.keep hk) hn
  have RC := fun W (hk : Keep w W) => readAt_c gt (pathF T path false).1 0 (((statF T (pathF T path false).1).size : Nat) : Int) T W (h.tree.tr.keep hk) hn (by omega) (by omega) (hD _ hn)
  simp only [Int.toNat_natCast] at RC
  obtain ⟨⟨n, er⟩, hp⟩ : ∃ p, p = pathF T path false := ⟨_, rfl⟩
  rw [← hp] at WC hn SC RC hR
  simp only at WC hn SC RC hR
  generalize (statF T n).size = sz at *
  generalize readF (at' T n).data 0 sz = M at *
  generalize (at' T n).kind = kd at *
  generalize (at' T n).mode = md at *
  generalize (at' T n).links = lk at *
  clear hp h ok hD
  by_cases her : er = 0
  · subst her
    rw [if_neg (by simp)] at hR
    by_cases hk : kd = 3
    · rw [if_neg (by simpa using hk)] at hR
      have HV := Hid.mk hR
      subst hk
      clear hR
      go_enter Try.func43, Try.ntmps43
      go_wp2_with fail
      refine WC.mono ?_
      rintro e w1 ⟨rfl, k1⟩
      replace c0 := HF.out _ k1
      go_wp2_with fail
      refine (SC _ k1).mono ?_
      rintro e w2 ⟨rfl, k2⟩
      have K2 := (k1.trans k2).alloc (.cells #[.int .i64 (n : Nat), .int .i64 3, .int .i64 md, .int .i64 (lk : Nat), .int .i64 (sz : Nat)] 31)
      replace c0 := HF.out _ K2
      go_upto_region 7 with fail
      have d4 : (w2.alloc (.cells #[.int .i64 (n : Nat), .int .i64 3, .int .i64 md, .int .i64 (lk : Nat), .int .i64 (sz : Nat)] 31)).cell? ⟨w2.heap.size, 4, none⟩ = some (.int .i64 (sz : Nat)) := (Arr.new w2 31 [.int .i64 (n : Nat), .int .i64 3, .int .i64 md, .int .i64 (lk : Nat), .int .i64 (sz : Nat)]).cell 4
      generalize w2.alloc (.cells #[.int .i64 (n : Nat), .int .i64 3, .int .i64 md, .int .i64 (lk : Nat), .int .i64 (sz : Nat)] 31) = W0 at *
      go_region_held3 (fun W => W.cell? ⟨gf, 0, none⟩ = some (.pointer (some ⟨gt, 0, none⟩)) ∧ W.cell? ⟨w2.heap.size, 4, none⟩ = some (.int .i64 (sz : Nat)))
        (first | assumption | exact ⟨c0, d4⟩ | exact ⟨Q1.cell c0, Q1.cell d4⟩)
        ((go_at_call 77; refine (RC _ K2.drew).mono ?_; rintro x y ⟨rfl, qq⟩; have Q1 : Keep _ y := (Keep.refl _).drew.trans qq))
      go_wp2_with fail
      go_ret2
      rw [HV.out]
      exact ⟨rfl, K2.trans Q1⟩
    · rw [if_pos (by simpa using hk)] at hR
      have z1 : ((kd : Int) != 3) = true := by simp; omega
      have HV := Hid.mk hR
      clear hR RC
      go_enter Try.func43, Try.ntmps43
      go_wp2_with fail
      refine WC.mono ?_
      rintro e w1 ⟨rfl, k1⟩
      replace c0 := HF.out _ k1
      go_wp2_with fail
      refine (SC _ k1).mono ?_
      rintro e w2 ⟨rfl, k2⟩
      go_wp2_with fail
      go_ret2
      rw [HV.out]
      exact ⟨rfl, (k1.trans k2).alloc _⟩
  · rw [if_pos her] at hR
    have HV := Hid.mk hR
    have q1 : (er != 0) = true := by simp [her]
    clear hR RC SC
    go_enter Try.func43, Try.ntmps43
    go_wp2_with fail
    refine WC.mono ?_
    rintro e w1 ⟨rfl, k1⟩
    go_wp2_with fail
    go_ret2
    rw [HV.out]
    exact ⟨rfl, k1⟩
end Go.Proofs.Qxb6500767a
