/- blast: or, same, mux, max. -/
import Derived.Test.Qxb6500772aDa
namespace Go.Proofs.Qxb6500772a
open Go.RowKit Go.Qm
set_option linter.unusedVariables false
set_option linter.unusedSimpArgs false
attribute [local go_sem ↓] Go.wp_at_zero Go.wp_at_succ
section
variable {B : Nat} {X P : Nat → Prop} {w : World} {gB : Nat} {cv : Value} {gc : Nat} {gv : Value} {G : List Gate} {n : Nat}
theorem or_b (h : BS B X P w gB cv gc gv G n) {x y : Nat} {f g : BF} (hx : Bt G x f) (hy : Bt G y g) (hl : G.length ≤ 900000000) :
    Calls Try.prog 78 #[.pointer (some ⟨gB, 0, none⟩), .int .i64 (x : Nat), .int .i64 (y : Nat)] w fun e w' => RetB B X gc gv w G n 4 (fun i => f i || g i) e w' := by
  obtain ⟨x0, -⟩ := h.cells
  have HO := Hid.mk (or_s h.cc h.wf hx hy hl)
  have HH := Hid.mk h
  have HX := Hid.mk hx
  have HY := Hid.mk hy
  clear h hx hy hl
  go_enter Try.func78, Try.ntmps78
  go_wp2_with fail
  refine (false_c gc _).mono ?_
  rintro e w1 ⟨rfl, hw⟩
  subst hw
  by_cases z : x = 0
  · subst z
    go_wp2_with fail
    go_ret
    refine ⟨gv, G, y, rfl, HH.out.cc, Stp.keep (Keep.refl _), (Ext.refl HH.out.wf).mono (by omega), HY.out.congr (fun inp => ?_)⟩
    rw [HX.out.uniq HH.out.wf.2 inp]; rfl
  · have z1 : ((x : Int) == 0) = false := by simp; omega
    clear z
    go_wp2_with fail
    refine (false_c gc _).mono ?_
    rintro e w1 ⟨rfl, hw⟩
    subst hw
    by_cases z : y = 0
    · subst z
      go_wp2_with fail
      go_ret
      refine ⟨gv, G, x, rfl, HH.out.cc, Stp.keep (Keep.refl _), (Ext.refl HH.out.wf).mono (by omega), HX.out.congr (fun inp => ?_)⟩
      rw [HY.out.uniq HH.out.wf.2 inp]; simp
    · have z2 : ((y : Int) == 0) = false := by simp; omega
      clear z
      go_wp2_with fail
      refine HO.out.mono ?_
      rintro e w1 ⟨gv', G', b, rfl, c, s, x, bt⟩
      go_wp2_with fail
      go_ret
      exact ⟨gv', G', b, rfl, c, s, x, bt⟩
end
theorem take_all {x y : List Nat} {k : Nat} (h : x.take k = y.take k) (hk : k = x.length) (hl : x.length = y.length) : x = y := by
  rw [List.take_of_length_le (by omega), List.take_of_length_le (by omega)] at h
  exact h
set_option maxHeartbeats 4000000 in
theorem same_c {fp : Nat → Prop} {w : World} {xv yv : Value} {x y : List Nat} (hx : WO fp w xv x) (hy : WO fp w yv y) (hl : x.length = y.length) (hm : x.length ≤ 1000) :
    Calls Try.prog 92 #[xv, yv] w fun e w' => e = .returned (.bool (decide (x = y))) ∧ Keep w w' := by
  obtain ⟨xa, xc, hxv, x1, x2⟩ := hx.form
  obtain ⟨ya, yc, hyv, y1, y2⟩ := hy.form
  subst hxv hyv
  unfold maxLen at x2 y2
  have HX := Hid.mk hx
  have HY := Hid.mk hy
  have HL := Hid.mk hl
  have i1 : (x.length : Int) ≤ 1000 := by omega
  have i2 : (y.length : Int) ≤ 1000 := by omega
  clear hx hy hl
  go_enter Try.func92, Try.ntmps92
  go_wp2_with fail
  go_loopg [4, 8] x.length (fun gk v4 v8 wr => ∃ (k : Nat), k + gk = x.length ∧ v8 = .int .i64 k ∧ Keep w wr ∧ x.take k = y.take k)
  case atStart => exact ⟨0, by omega, rfl, Keep.refl w, rfl⟩
  case round =>
    obtain ⟨k, hk, rfl, kp, heq⟩ := hrel
    have HK := Hid.mk hk
    have HKP := Hid.mk kp
    have HQ := Hid.mk heq
    clear heq kp hk
    by_cases hlt : k < x.length
    · have j1 : (k : Int) < x.length := by omega
      have j2 : (0 : Int) ≤ k := by omega
      have j3 : (k : Int) < y.length := by have := HL.out; omega
      obtain ⟨b, o, hxa, cx⟩ := (HX.out.step (Stp.keep HKP.out)).cell hlt
      obtain ⟨b', o', hya, cy⟩ := (HY.out.step (Stp.keep HKP.out)).cell (i := k) (by have := HL.out; omega)
      subst hxa hya
      have hlt2 : k < y.length := by have := HL.out; omega
      have HT : Hid ((x.take (k + 1) = y.take (k + 1)) ↔ x[k] = y[k]) := Hid.mk (by
        rw [List.take_succ_eq_append_getElem hlt, List.take_succ_eq_append_getElem hlt2, HQ.out, List.append_right_inj]
        simp)
      have HNE : Hid (x[k] ≠ y[k] → x ≠ y) := Hid.mk (fun a e => a (by subst e; rfl))
      generalize x[k] = u at *
      generalize y[k] = v at *
      by_cases z : u = v
      · have z1 : ((u : Int) != v) = false := by simp; omega
        have HZ := Hid.mk z
        clear z
        go_wp2_with fail
        go_quiet (fail)
        go_wp2_with fail
        go_roundg (gk - 1)
        case measure => have := HK.out; omega
        case rel => exact ⟨k + 1, by have := HK.out; omega, by go_num, HKP.out.drewN _, HT.out.2 HZ.out⟩
      · have z1 : ((u : Int) != v) = true := by simp; omega
        have HZ := Hid.mk z
        clear z
        go_wp2_with fail
        go_quiet (fail)
        go_wp2_with fail
        go_ret
        refine ⟨?_, HKP.out.drewN _⟩
        rw [decide_eq_false (HNE.out HZ.out)]; rfl
    · have j1 : ¬ (k : Int) < x.length := by omega
      go_wp2_with fail
      go_ret
      refine ⟨?_, HKP.out⟩
      rw [decide_eq_true (take_all HQ.out (by have := HK.out; omega) HL.out)]; rfl
section
variable {B : Nat} {X P : Nat → Prop} {w : World} {gB : Nat} {cv : Value} {gc : Nat} {gv : Value} {G : List Gate} {n : Nat}
theorem mux_b (h : BS B X P w gB cv gc gv G n) {s : Nat} {c : BF} (hs : Bt G s c) {xv yv : Value} {x y : List Nat} {wd : Nat} {f g : WF} (hx : WO (fpX gc gv X) w xv x) (vx : Wv G x wd f) (hy : WO (fpX gc gv X) w yv y) (vy : Wv G y wd g) (hxl : wd ≤ 64) (hl : G.length ≤ 700000000) :
    Calls Try.prog 77 #[.pointer (some ⟨gB, 0, none⟩), .int .i64 (s : Nat), xv, yv] w fun e w' => RetV B X gc gv w G n 448 wd (fun i => if c i then f i else g i) e w' := by
  have HS := Hid.mk (same_c hx hy (vx.len.trans vy.len.symm) (by rw [vx.len]; omega))
  have HH := Hid.mk h
  have HM : Hid (∀ w', Keep w w' → Calls Try.prog 89 #[.pointer (some ⟨gc, 0, none⟩), .int .i64 (s : Nat), xv, yv] w' fun e w2 => RetV B X gc gv w' G n 448 wd (fun i => if c i then f i else g i) e w2) := Hid.mk (fun w' k => muxW_c (h.keep k).cc h.wf (h.keep k).hX hs (hx.stepX (Stp.keep k)) vx (hy.stepX (Stp.keep k)) vy hxl hl)
  have HX := Hid.mk hx
  have HVX := Hid.mk vx
  have HVY := Hid.mk vy
  obtain ⟨xa, xc, hxv, x1, x2⟩ := hx.form
  obtain ⟨ya, yc, hyv, y1, y2⟩ := hy.form
  subst hxv hyv
  clear h hs hx hy vx vy hl
  go_enter Try.func77, Try.ntmps77
  go_wp2_with fail
  refine HS.out.mono ?_
  rintro e w1 ⟨rfl, k1⟩
  have HK1 := Hid.mk k1
  clear k1
  by_cases z : x = y
  · rw [decide_eq_true z]
    have HZ := Hid.mk z
    clear z
    go_wp2_with fail
    go_ret
    refine ⟨gv, G, x, _, rfl, (HH.out.keep HK1.out).cc, Stp.keep HK1.out, (Ext.refl HH.out.wf).mono (by omega), HX.out.stepX (Stp.keep HK1.out), HVX.out.congr (fun inp => ?_)⟩
    have e := HVX.out.uniq (g := g) (by rw [HZ.out]; exact HVY.out) inp
    rw [e]; simp
  · rw [decide_eq_false z]
    clear z
    obtain ⟨x0, -⟩ := (HH.out.keep HK1.out).cells
    go_wp2_with fail
    refine (HM.out _ HK1.out).mono ?_
    rintro e w2 ⟨gv', G', l, v, rfl, c1, s1, e1, wo1, wv1⟩
    obtain ⟨va, vc, hv, -, -⟩ := wo1.form
    have HW := Hid.mk wo1
    have HC := Hid.mk c1
    have HS1 := Hid.mk s1
    subst hv
    clear wo1 c1 s1 x0
    go_wp2_with fail
    go_ret
    exact ⟨gv', G', l, _, rfl, HC.out, (Stp.keep HK1.out).trans HS1.out, e1, HW.out, wv1⟩
theorem divc (m k : Nat) : ((m : Int) / 2 ^ k) = ((m / 2 ^ k : Nat) : Int) := by push_cast; rfl
theorem max_pow {wd : Nat} (h1 : 1 ≤ wd) (hw : wd ≤ 64) : 18446744073709551615 / 2 ^ (65 - wd) = (2 ^ wd - 1) / 2 := by
  have : ∀ k, k ≤ 64 → 1 ≤ k → 18446744073709551615 / 2 ^ (65 - k) = (2 ^ k - 1) / 2 := by decide +kernel
  exact this wd hw h1
theorem max_b (h : BS B X P w gB cv gc gv G n) {wd : Nat} (h1 : 1 ≤ wd) (hw : wd ≤ 64) (hl : G.length ≤ 800000000) :
    Calls Try.prog 90 #[.pointer (some ⟨gB, 0, none⟩), .int .i64 (wd : Nat)] w fun e w' => RetV B X gc gv w G n 64 wd (fun _ => (2 ^ wd - 1) / 2) e w' := by
  have hp := Nat.two_pow_pos wd
  have hp64 : 2 ^ wd ≤ 2 ^ 64 := Nat.pow_le_pow_right (by decide) hw
  have CW := constW_c h.cc h.wf h.hX ((2 ^ wd - 1) / 2) (by omega) wd hw hl
  have e1 : (2 ^ wd - 1) / 2 % 2 ^ wd = (2 ^ wd - 1) / 2 := Nat.mod_eq_of_lt (by omega)
  rw [e1] at CW
  have HE : Hid ((18446744073709551615 : Int) / 2 ^ (65 - wd) = (((2 ^ wd - 1) / 2 : Nat) : Int)) := Hid.mk (by rw [← max_pow h1 hw]; exact divc 18446744073709551615 _)
  have HCW := Hid.mk CW
  obtain ⟨x0, -⟩ := h.cells
  have i1 : (1 : Int) ≤ wd := by omega
  have i2 : (wd : Int) ≤ 64 := by omega
  clear CW h e1 hp hp64
  go_enter Try.func90, Try.ntmps90
  go_wp2_with fail
  rw [HE.out]
  refine HCW.out.mono ?_
  rintro e w2 ⟨gv', G', l, v, rfl, c1, s1, e1, wo1, wv1⟩
  obtain ⟨va, vc, hv, -, -⟩ := wo1.form
  have HW := Hid.mk wo1
  have HC := Hid.mk c1
  have HS1 := Hid.mk s1
  subst hv
  clear wo1 c1 s1 x0
  go_wp2_with fail
  go_ret
  exact ⟨gv', G', l, _, rfl, HC.out, HS1.out, e1, HW.out, wv1⟩
end
end Go.Proofs.Qxb6500772a
