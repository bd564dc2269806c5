/- foldindexlaw: play (remove, taken). -/
import Derived.Test.Qxb6500766aDs
import Derived.Deep.RegionHeld3
namespace Go.Proofs.Qxb6500766a
open Go.RowKit Go.Qm
set_option linter.unusedVariables false
set_option linter.unusedSimpArgs false
attribute [local go_sem ↓] Go.wp_at_zero Go.wp_at_succ
section
variable {B : Nat} {fp : Nat → Prop} {w : World} {gs gc gw N : Nat} {R : Sys}
set_option maxRecDepth 4000 in
set_option maxHeartbeats 4000000 in
theorem play2 (d : Nat) (l what : Int) (name : List UInt8) (h : WW B fp w gs gc N R) (hw : Arr w gw 38 [.pointer (some ⟨gs, 0, none⟩), .pointer (some ⟨gc, 0, none⟩)]) (hN : N ≤ 1000000000000) (hnm : name.length ≤ 1000000) (hgw : ¬ fp gw) (hd : d < 24) (l' : Nat) (hl : l' < 8) (hl' : l = (l' : Int)) (hne : name ≠ []) (hh : hasR name (R d l') = true) :
    Calls Try.prog 10 #[.pointer (some ⟨gw, 0, none⟩), .agg #[.int .i64 2, .int .i64 d, .int .i64 l, str name, .int .i64 what]] w fun e w' => PlayP B fp w gs gc N (ans 0, outS R d l' name) e w' := by
  have CC : ∀ W, Keep w W → Calls Try.prog 28 #[.pointer (some ⟨gs, 0, none⟩), .int .i64 d, .int .i64 l, str name] W fun e w' => HlfP B fp W gs gc N R (outS R d l' name) e w' := fun W q => by
    rw [hl']
    refine (removeW d l' name (h.keep q) hd hl hne).mono ?_
    rintro e w' (⟨a, rfl, W2, st⟩ | ⟨a, rfl, fp', W2, st⟩)
    · rw [hh] at a; cases a
    · exact ⟨fp', rfl, W2, st⟩
  have NC : ∀ fp' W, HW B fp' W gs gc N R (outS R d l' name) → Calls Try.prog 29 #[.pointer (some ⟨gc, 0, none⟩), .int .i64 d, .int .i64 l, str name] W fun e w' => RetW B fp' W gs gc N (outS R d l' name) (.returned (.tuple #[])) e w' := fun fp' W q => by
    rw [hl']
    exact noteRemoveW d l' name q (h.ok hd) hl hh hnm
  clear hl'
  generalize outS R d l' name = R' at *
  have HCC := Hid.mk CC
  clear CC
  have HNC := Hid.mk NC
  clear NC
  have K1 := ((Keep.refl w).alloc (.cells #[.int .i64 2, .int .i64 d, .int .i64 l, str name, .int .i64 what] 32)).alloc (.cells #[.int .i64 0, str [], .int .i64 0, .slice none 0 0] 29)
  have O1 := (Arr.new w 32 [.int .i64 2, .int .i64 d, .int .i64 l, str name, .int .i64 what]).keep ((Keep.refl _).alloc (.cells #[.int .i64 0, str [], .int .i64 0, .slice none 0 0] 29))
  have R1 := Arr.new (w.alloc (.cells #[.int .i64 2, .int .i64 d, .int .i64 l, str name, .int .i64 what] 32)) 29 [.int .i64 0, str [], .int .i64 0, .slice none 0 0]
  rw [show (w.alloc (.cells #[.int .i64 2, .int .i64 d, .int .i64 l, str name, .int .i64 what] 32)).heap.size = w.heap.size + 1 by simp] at R1
  have g0 := Go.Qm.Arr.cell (hw.keep K1) 0
  have g1 := Go.Qm.Arr.cell (hw.keep K1) 1
  simp only [List.getElem?_cons_zero, List.getElem?_cons_succ] at g0 g1
  have o0 := Go.Qm.Arr.cell O1 0
  have o1 := Go.Qm.Arr.cell O1 1
  have o2 := Go.Qm.Arr.cell O1 2
  have o3 := Go.Qm.Arr.cell O1 3
  have o4 := Go.Qm.Arr.cell O1 4
  simp only [List.getElem?_cons_zero, List.getElem?_cons_succ] at o0 o1 o2 o3 o4
  have h1 : w.heap.size ≤ w.heap.size + 1 := Nat.le_succ _
  have h2 := R1.lt
  go_enter Try.func10, Try.ntmps10
  go_upto_region 8 with fail
  generalize (w.alloc (.cells #[.int .i64 2, .int .i64 d, .int .i64 l, str name, .int .i64 what] 32)).alloc (.cells #[.int .i64 0, str [], .int .i64 0, .slice none 0 0] 29) = w1 at *
  have HO := Hid.mk O1
  have HG := Hid.mk (hw.keep K1)
  clear O1
  have hO : Hid (w.heap.size ≤ w.heap.size) := Hid.mk (Nat.le_refl _)
  generalize w.heap.size + 1 = gR at *
  have u1 := Go.Qm.Arr.cell HO.out 1; have u2 := Go.Qm.Arr.cell HO.out 2; have u3 := Go.Qm.Arr.cell HO.out 3; have u4 := Go.Qm.Arr.cell HO.out 4; have u5 := Go.Qm.Arr.cell HG.out 0; have u6 := Go.Qm.Arr.cell HG.out 1; simp only [List.getElem?_cons_zero, List.getElem?_cons_succ] at u1 u2 u3 u4 u5 u6
  go_region_held3 (fun w' => w'.cell? ⟨gw, 0, none⟩ = some (.pointer (some ⟨gs, 0, none⟩)) ∧ w'.cell? ⟨w.heap.size, 1, none⟩ = some (.int .i64 d) ∧ w'.cell? ⟨w.heap.size, 2, none⟩ = some (.int .i64 l) ∧ w'.cell? ⟨w.heap.size, 3, none⟩ = some (str name))
    (first | exact ⟨x5, x1, x2, x3⟩ | exact ⟨u5, u1, u2, u3⟩)
    ((go_at_call 28; refine (HCC.out _ K1.drew).mono ?_; rintro e w2 ⟨fp2, rfl, H2, st2⟩; have Ax := HO.out.drew.stp h hO.out st2; have Gx := HG.out.drew.fpS hgw st2; have x1 := Go.Qm.Arr.cell Ax 1; have x2 := Go.Qm.Arr.cell Ax 2; have x3 := Go.Qm.Arr.cell Ax 3; have x4 := Go.Qm.Arr.cell Ax 4; have x5 := Go.Qm.Arr.cell Gx 0; have x6 := Go.Qm.Arr.cell Gx 1; simp only [List.getElem?_cons_zero, List.getElem?_cons_succ] at x1 x2 x3 x4 x5 x6))
  have R2 := R1.drew.stp h h1 st2
  have HA2 := Hid.mk Ax
  have HG2 := Hid.mk Gx
  have hn2 : Hid (∀ q, q < w1.heap.size → ¬ fp q → ¬ fp2 q) := Hid.mk (fun q hq hf a => (st2.2 q a).elim hf (fun b => Nat.lt_irrefl _ (Nat.lt_of_lt_of_le hq b)))
  have hwl : Hid (gw < w1.heap.size ∧ w.heap.size < w1.heap.size ∧ ∀ q, w.heap.size ≤ q → ¬ fp q) := Hid.mk ⟨HG.out.lt, HO.out.lt, fun q hq a => by have := (h.lo a).2; omega⟩
  clear u1 u2 u3 u4 u5 u6 Ax Gx
  go_upto_region 10 with fail
  go_region_held3 (fun w' => w'.cell? ⟨gw, 1, none⟩ = some (.pointer (some ⟨gc, 0, none⟩)) ∧ w'.cell? ⟨w.heap.size, 1, none⟩ = some (.int .i64 d) ∧ w'.cell? ⟨w.heap.size, 2, none⟩ = some (.int .i64 l) ∧ w'.cell? ⟨w.heap.size, 3, none⟩ = some (str name))
    (first | exact ⟨y6, y1, y2, y3⟩ | exact ⟨x6, x1, x2, x3⟩)
    ((go_at_call 29; refine (HNC.out _ _ (H2.keep ((Keep.refl _).drew))).mono ?_; rintro e w3 ⟨fp3, rfl, W3, st3⟩; have Ay := HA2.out.drew.fpS (hn2.out _ hwl.out.2.1 (hwl.out.2.2 _ (Nat.le_refl _))) st3; have Gy := HG2.out.drew.fpS (hn2.out _ hwl.out.1 hgw) st3; have y1 := Go.Qm.Arr.cell Ay 1; have y2 := Go.Qm.Arr.cell Ay 2; have y3 := Go.Qm.Arr.cell Ay 3; have y4 := Go.Qm.Arr.cell Ay 4; have y5 := Go.Qm.Arr.cell Gy 0; have y6 := Go.Qm.Arr.cell Gy 1; simp only [List.getElem?_cons_zero, List.getElem?_cons_succ] at y1 y2 y3 y4 y5 y6))
  have R4 := R2.drew.fpS (hn2.out _ h2 (hwl.out.2.2 _ h1)) st3
  have t0 := Go.Qm.Arr.cell R4 0
  have t1 := Go.Qm.Arr.cell R4 1
  have t2 := Go.Qm.Arr.cell R4 2
  have t3 := Go.Qm.Arr.cell R4 3
  have z0 := Go.Qm.Arr.frozen R4 0
  have z1 := Go.Qm.Arr.frozen R4 1
  have z2 := Go.Qm.Arr.frozen R4 2
  have z3 := Go.Qm.Arr.frozen R4 3
  simp only [List.getElem?_cons_zero, List.getElem?_cons_succ] at t0 t1 t2 t3
  all_goals
    first | go_wp2_with fail | skip
    have AZ := (((Go.Qm.Arr.set R4 0 (.int .i64 0)).set 1 (str [])).set 2 (.int .i64 0)).set 3 (.slice none 0 0)
    have q0 := Go.Qm.Arr.cell AZ 0
    have q1 := Go.Qm.Arr.cell AZ 1
    have q2 := Go.Qm.Arr.cell AZ 2
    have q3 := Go.Qm.Arr.cell AZ 3
    simp only [List.set_cons_zero, List.set_cons_succ, List.getElem?_cons_zero, List.getElem?_cons_succ] at q0 q1 q2 q3
    have GZ := grown_set (grown_set (grown_set (grown_set (grown_refl w3 (some gR)) 0 (.int .i64 0)) 1 (str [])) 2 (.int .i64 0)) 3 (.slice none 0 0)
    refine bodyPost_ret (v := .agg #[.int .i64 0, str [], .int .i64 0, (.slice none 0 0)]) (by simp [results, Try.results10, go_sem, q0, q1, q2, q3]) rfl ?_
    exact PlayP.fin (a := ans 0) h K1.drew h1 h2 ((st2.trans (Stp.keep ((Keep.refl _).drew))).trans st3) (W3.le (Nat.le_succ _)) (OwnS.nil _ _ _ _ _) GZ
end
end Go.Proofs.Qxb6500766a
