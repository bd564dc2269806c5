/- circuitm: Add, Sub, Mul, SDiv, SRem, Eq, Slt. -/
import Derived.Test.Qxb6500772aCg
namespace Go.Proofs.Qxb6500772a
open Go.RowKit Go.Qm
set_option linter.unusedVariables false
set_option linter.unusedSimpArgs false
attribute [local go_sem ↓] Go.wp_at_zero Go.wp_at_succ
section
variable {B gc n : Nat} {X : Nat → Prop} {gv : Value} {G : List Gate} {w : World}
theorem addW_c (h : CC B X w gc gv G n) (hw : WFG G) (hX : ∀ q, X q → q < w.heap.size) {xv yv : Value} {x y : List Nat} {wd : Nat} {f g : WF} (hx : WO (fpX gc gv X) w xv x) (vx : Wv G x wd f) (hy : WO (fpX gc gv X) w yv y) (vy : Wv G y wd g) (h1 : 1 ≤ wd) (h2 : wd ≤ 64) (hl : G.length ≤ 800000000) :
    Calls Try.prog 88 #[.pointer (some ⟨gc, 0, none⟩), xv, yv] w fun e w' => RetV B X gc gv w G n 65 wd (fun i => wop 0 (f i) (g i) wd) e w' := by
  have WC := word_c h hw hX 0 hx vx hy vy h1 h2 (by decide) wd h2 (fun i => wop_lt h1 (vx.lt i) (by decide)) hl
  obtain ⟨xa, xc, hxv, x1, x2⟩ := hx.form
  rw [vx.len] at hxv
  subst hxv
  have HW := Hid.mk WC
  have i2 : (wd : Int) ≤ 64 := by omega
  clear WC hx hy vx vy hw hX h hl h2 x1 x2
  go_enter Try.func88, Try.ntmps88
  go_wp2_with fail
  refine HW.out.mono ?_
  rintro e w1 ⟨gv', G', l, v, rfl, c, s, ex, o, vv⟩
  go_wp2_with fail
  go_ret
  exact ⟨gv', G', l, v, rfl, c, s, ex, o, vv⟩
theorem subW_c (h : CC B X w gc gv G n) (hw : WFG G) (hX : ∀ q, X q → q < w.heap.size) {xv yv : Value} {x y : List Nat} {wd : Nat} {f g : WF} (hx : WO (fpX gc gv X) w xv x) (vx : Wv G x wd f) (hy : WO (fpX gc gv X) w yv y) (vy : Wv G y wd g) (h1 : 1 ≤ wd) (h2 : wd ≤ 64) (hl : G.length ≤ 800000000) :
    Calls Try.prog 95 #[.pointer (some ⟨gc, 0, none⟩), xv, yv] w fun e w' => RetV B X gc gv w G n 65 wd (fun i => wop 1 (f i) (g i) wd) e w' := by
  have WC := word_c h hw hX 1 hx vx hy vy h1 h2 (by decide) wd h2 (fun i => wop_lt h1 (vx.lt i) (by decide)) hl
  obtain ⟨xa, xc, hxv, x1, x2⟩ := hx.form
  rw [vx.len] at hxv
  subst hxv
  have HW := Hid.mk WC
  have i2 : (wd : Int) ≤ 64 := by omega
  clear WC hx hy vx vy hw hX h hl h2 x1 x2
  go_enter Try.func95, Try.ntmps95
  go_wp2_with fail
  refine HW.out.mono ?_
  rintro e w1 ⟨gv', G', l, v, rfl, c, s, ex, o, vv⟩
  go_wp2_with fail
  go_ret
  exact ⟨gv', G', l, v, rfl, c, s, ex, o, vv⟩
theorem mulW_c (h : CC B X w gc gv G n) (hw : WFG G) (hX : ∀ q, X q → q < w.heap.size) {xv yv : Value} {x y : List Nat} {wd : Nat} {f g : WF} (hx : WO (fpX gc gv X) w xv x) (vx : Wv G x wd f) (hy : WO (fpX gc gv X) w yv y) (vy : Wv G y wd g) (h1 : 1 ≤ wd) (h2 : wd ≤ 64) (hl : G.length ≤ 800000000) :
    Calls Try.prog 97 #[.pointer (some ⟨gc, 0, none⟩), xv, yv] w fun e w' => RetV B X gc gv w G n 65 wd (fun i => wop 2 (f i) (g i) wd) e w' := by
  have WC := word_c h hw hX 2 hx vx hy vy h1 h2 (by decide) wd h2 (fun i => wop_lt h1 (vx.lt i) (by decide)) hl
  obtain ⟨xa, xc, hxv, x1, x2⟩ := hx.form
  rw [vx.len] at hxv
  subst hxv
  have HW := Hid.mk WC
  have i2 : (wd : Int) ≤ 64 := by omega
  clear WC hx hy vx vy hw hX h hl h2 x1 x2
  go_enter Try.func97, Try.ntmps97
  go_wp2_with fail
  refine HW.out.mono ?_
  rintro e w1 ⟨gv', G', l, v, rfl, c, s, ex, o, vv⟩
  go_wp2_with fail
  go_ret
  exact ⟨gv', G', l, v, rfl, c, s, ex, o, vv⟩
theorem divW_c (h : CC B X w gc gv G n) (hw : WFG G) (hX : ∀ q, X q → q < w.heap.size) {xv yv : Value} {x y : List Nat} {wd : Nat} {f g : WF} (hx : WO (fpX gc gv X) w xv x) (vx : Wv G x wd f) (hy : WO (fpX gc gv X) w yv y) (vy : Wv G y wd g) (h1 : 1 ≤ wd) (h2 : wd ≤ 64) (hl : G.length ≤ 800000000) :
    Calls Try.prog 98 #[.pointer (some ⟨gc, 0, none⟩), xv, yv] w fun e w' => RetV B X gc gv w G n 65 wd (fun i => wop 3 (f i) (g i) wd) e w' := by
  have WC := word_c h hw hX 3 hx vx hy vy h1 h2 (by decide) wd h2 (fun i => wop_lt h1 (vx.lt i) (by decide)) hl
  obtain ⟨xa, xc, hxv, x1, x2⟩ := hx.form
  rw [vx.len] at hxv
  subst hxv
  have HW := Hid.mk WC
  have i2 : (wd : Int) ≤ 64 := by omega
  clear WC hx hy vx vy hw hX h hl h2 x1 x2
  go_enter Try.func98, Try.ntmps98
  go_wp2_with fail
  refine HW.out.mono ?_
  rintro e w1 ⟨gv', G', l, v, rfl, c, s, ex, o, vv⟩
  go_wp2_with fail
  go_ret
  exact ⟨gv', G', l, v, rfl, c, s, ex, o, vv⟩
theorem remW_c (h : CC B X w gc gv G n) (hw : WFG G) (hX : ∀ q, X q → q < w.heap.size) {xv yv : Value} {x y : List Nat} {wd : Nat} {f g : WF} (hx : WO (fpX gc gv X) w xv x) (vx : Wv G x wd f) (hy : WO (fpX gc gv X) w yv y) (vy : Wv G y wd g) (h1 : 1 ≤ wd) (h2 : wd ≤ 64) (hl : G.length ≤ 800000000) :
    Calls Try.prog 99 #[.pointer (some ⟨gc, 0, none⟩), xv, yv] w fun e w' => RetV B X gc gv w G n 65 wd (fun i => wop 4 (f i) (g i) wd) e w' := by
  have WC := word_c h hw hX 4 hx vx hy vy h1 h2 (by decide) wd h2 (fun i => wop_lt h1 (vx.lt i) (by decide)) hl
  obtain ⟨xa, xc, hxv, x1, x2⟩ := hx.form
  rw [vx.len] at hxv
  subst hxv
  have HW := Hid.mk WC
  have i2 : (wd : Int) ≤ 64 := by omega
  clear WC hx hy vx vy hw hX h hl h2 x1 x2
  go_enter Try.func99, Try.ntmps99
  go_wp2_with fail
  refine HW.out.mono ?_
  rintro e w1 ⟨gv', G', l, v, rfl, c, s, ex, o, vv⟩
  go_wp2_with fail
  go_ret
  exact ⟨gv', G', l, v, rfl, c, s, ex, o, vv⟩
theorem eqW_c (h : CC B X w gc gv G n) (hw : WFG G) (hX : ∀ q, X q → q < w.heap.size) {xv yv : Value} {x y : List Nat} {wd : Nat} {f g : WF} (hx : WO (fpX gc gv X) w xv x) (vx : Wv G x wd f) (hy : WO (fpX gc gv X) w yv y) (vy : Wv G y wd g) (h1 : 1 ≤ wd) (h2 : wd ≤ 64) (hl : G.length ≤ 800000000) :
    Calls Try.prog 71 #[.pointer (some ⟨gc, 0, none⟩), xv, yv] w fun e w' => RetB B X gc gv w G n 65 (fun i => decide (f i = g i)) e w' := by
  have WC := word_c h hw hX 5 hx vx hy vy h1 h2 (by decide) 1 (by decide) (fun i => by unfold wop; split <;> (try omega) <;> simp <;> split <;> omega) hl
  have HW := Hid.mk WC
  obtain ⟨xa, xc, hxv, x1, x2⟩ := hx.form
  obtain ⟨ya, yc, hyv, y1, y2⟩ := hy.form
  subst hxv hyv
  clear WC hx hy vx vy hw hX h hl h2 x1 x2 y1 y2
  go_enter Try.func71, Try.ntmps71
  go_wp2_with fail
  refine HW.out.mono ?_
  rintro e w1 ⟨gv', G', l, v, rfl, c, s, ex, o, vv⟩
  have hl1 : l.length = 1 := vv.len
  obtain ⟨va, vc, hv, v1, v2⟩ := o.form
  rw [hl1] at hv v1
  subst hv
  obtain ⟨b, oo, hva, hc⟩ := (show WO (fpX gc gv' X) w1 (.slice va l.length vc) l by rw [hl1]; exact o).cell (i := 0) (by omega)
  subst hva
  have hbb := vv.bit 0 (by omega)
  generalize l[0] = bb at *
  have HC := Hid.mk c
  have HS := Hid.mk s
  have HE := Hid.mk ex
  have HB := Hid.mk hbb
  rw [Nat.add_zero] at hc
  clear c s ex o vv hbb hl1
  go_wp2_with fail
  go_ret
  exact ⟨gv', G', bb, rfl, HC.out, HS.out, HE.out, HB.out.congr fun i => by
    simp only [wop]
    by_cases e : f i = g i <;> simp [e]⟩
theorem sltW_c (h : CC B X w gc gv G n) (hw : WFG G) (hX : ∀ q, X q → q < w.heap.size) {xv yv : Value} {x y : List Nat} {wd : Nat} {f g : WF} (hx : WO (fpX gc gv X) w xv x) (vx : Wv G x wd f) (hy : WO (fpX gc gv X) w yv y) (vy : Wv G y wd g) (h1 : 1 ≤ wd) (h2 : wd ≤ 64) (hl : G.length ≤ 800000000) :
    Calls Try.prog 73 #[.pointer (some ⟨gc, 0, none⟩), xv, yv] w fun e w' => RetB B X gc gv w G n 65 (fun i => decide (sgn (f i) wd < sgn (g i) wd)) e w' := by
  have WC := word_c h hw hX 6 hx vx hy vy h1 h2 (by decide) 1 (by decide) (fun i => by unfold wop; split <;> (try omega) <;> simp <;> split <;> omega) hl
  have HW := Hid.mk WC
  obtain ⟨xa, xc, hxv, x1, x2⟩ := hx.form
  obtain ⟨ya, yc, hyv, y1, y2⟩ := hy.form
  subst hxv hyv
  clear WC hx hy vx vy hw hX h hl h2 x1 x2 y1 y2
  go_enter Try.func73, Try.ntmps73
  go_wp2_with fail
  refine HW.out.mono ?_
  rintro e w1 ⟨gv', G', l, v, rfl, c, s, ex, o, vv⟩
  have hl1 : l.length = 1 := vv.len
  obtain ⟨va, vc, hv, v1, v2⟩ := o.form
  rw [hl1] at hv v1
  subst hv
  obtain ⟨b, oo, hva, hc⟩ := (show WO (fpX gc gv' X) w1 (.slice va l.length vc) l by rw [hl1]; exact o).cell (i := 0) (by omega)
  subst hva
  have hbb := vv.bit 0 (by omega)
  generalize l[0] = bb at *
  have HC := Hid.mk c
  have HS := Hid.mk s
  have HE := Hid.mk ex
  have HB := Hid.mk hbb
  rw [Nat.add_zero] at hc
  clear c s ex o vv hbb hl1
  go_wp2_with fail
  go_ret
  exact ⟨gv', G', bb, rfl, HC.out, HS.out, HE.out, HB.out.congr fun i => by
    simp only [wop]
    by_cases e : sgn (f i) wd < sgn (g i) wd <;> simp [e]⟩
end
end Go.Proofs.Qxb6500772a
