/- foldindexlaw: play (remove, refused). -/
import Derived.Test.Qxb6500766aDl
import Derived.Deep.RegionHeld3
namespace Go.Proofs.Qxb6500766a
open Go.RowKit Go.Qm
set_option linter.unusedVariables false
set_option linter.unusedSimpArgs false
attribute [local go_sem ↓] Go.wp_at_zero Go.wp_at_succ
section
variable {B : Nat} {fp : Nat → Prop} {w : World} {gs gc gw N : Nat} {R : Sys}
set_option maxRecDepth 4000 in
set_option maxHeartbeats 4000000 in
theorem play2b (d : Int) (l what : Int) (name : List UInt8) (h : WW B fp w gs gc N R) (hw : Arr w gw 38 [.pointer (some ⟨gs, 0, none⟩), .pointer (some ⟨gc, 0, none⟩)]) (hN : N ≤ 1000000000000) (hnm : name.length ≤ 1000000) (hb : badR d l name = true) :
    Calls Try.prog 10 #[.pointer (some ⟨gw, 0, none⟩), .agg #[.int .i64 2, .int .i64 d, .int .i64 l, str name, .int .i64 what]] w fun e w' => PlayP B fp w gs gc N (ans 1, R) e w' := by
  have CC := fun p W => remove_bad_c p d l name W hb
  have HCC := Hid.mk CC
  clear CC
  have K1 := ((Keep.refl w).alloc (.cells #[.int .i64 2, .int .i64 d, .int .i64 l, str name, .int .i64 what] 32)).alloc (.cells #[.int .i64 0, str [], .int .i64 0, .slice none 0 0] 29)
  have O1 := (Arr.new w 32 [.int .i64 2, .int .i64 d, .int .i64 l, str name, .int .i64 what]).keep ((Keep.refl _).alloc (.cells #[.int .i64 0, str [], .int .i64 0, .slice none 0 0] 29))
  have R1 := Arr.new (w.alloc (.cells #[.int .i64 2, .int .i64 d, .int .i64 l, str name, .int .i64 what] 32)) 29 [.int .i64 0, str [], .int .i64 0, .slice none 0 0]
  rw [show (w.alloc (.cells #[.int .i64 2, .int .i64 d, .int .i64 l, str name, .int .i64 what] 32)).heap.size = w.heap.size + 1 by simp] at R1
  have g0 := Go.Qm.Arr.cell (hw.keep K1) 0
  have g1 := Go.Qm.Arr.cell (hw.keep K1) 1
  simp only [List.getElem?_cons_zero, List.getElem?_cons_succ] at g0 g1
  have o0 := Go.Qm.Arr.cell O1 0
  have o1 := Go.Qm.Arr.cell O1 1
  have o2 := Go.Qm.Arr.cell O1 2
  have o3 := Go.Qm.Arr.cell O1 3
  have o4 := Go.Qm.Arr.cell O1 4
  simp only [List.getElem?_cons_zero, List.getElem?_cons_succ] at o0 o1 o2 o3 o4
  have h1 : w.heap.size ≤ w.heap.size + 1 := Nat.le_succ _
  have h2 := R1.lt
  go_enter Try.func10, Try.ntmps10
  go_upto_region 8 with fail
  generalize (w.alloc (.cells #[.int .i64 2, .int .i64 d, .int .i64 l, str name, .int .i64 what] 32)).alloc (.cells #[.int .i64 0, str [], .int .i64 0, .slice none 0 0] 29) = w1 at *
  have HO := Hid.mk O1
  have HG := Hid.mk (hw.keep K1)
  clear O1
  have hO : Hid (w.heap.size ≤ w.heap.size) := Hid.mk (Nat.le_refl _)
  generalize w.heap.size + 1 = gR at *
  have u1 := Go.Qm.Arr.cell HO.out 1; have u2 := Go.Qm.Arr.cell HO.out 2; have u3 := Go.Qm.Arr.cell HO.out 3; have u4 := Go.Qm.Arr.cell HO.out 4; have u5 := Go.Qm.Arr.cell HG.out 0; have u6 := Go.Qm.Arr.cell HG.out 1; simp only [List.getElem?_cons_zero, List.getElem?_cons_succ] at u1 u2 u3 u4 u5 u6
  go_region_held3 (fun w' => w'.cell? ⟨gw, 0, none⟩ = some (.pointer (some ⟨gs, 0, none⟩)) ∧ w'.cell? ⟨w.heap.size, 1, none⟩ = some (.int .i64 d) ∧ w'.cell? ⟨w.heap.size, 2, none⟩ = some (.int .i64 l) ∧ w'.cell? ⟨w.heap.size, 3, none⟩ = some (str name))
    (first | exact ⟨x5, x1, x2, x3⟩ | exact ⟨u5, u1, u2, u3⟩)
    ((go_at_call 28; refine (HCC.out _ _).mono ?_; rintro e w2 ⟨rfl, hw2⟩; have kk : Keep w1.drew w2 := (by rw [hw2]; exact Keep.refl _); clear hw2; have Ax := HO.out.drew.keep kk; have Gx := HG.out.drew.keep kk; have x1 := Go.Qm.Arr.cell Ax 1; have x2 := Go.Qm.Arr.cell Ax 2; have x3 := Go.Qm.Arr.cell Ax 3; have x4 := Go.Qm.Arr.cell Ax 4; have x5 := Go.Qm.Arr.cell Gx 0; have x6 := Go.Qm.Arr.cell Gx 1; simp only [List.getElem?_cons_zero, List.getElem?_cons_succ] at x1 x2 x3 x4 x5 x6))
  have R4 := R1.drew.keep kk
  have t0 := Go.Qm.Arr.cell R4 0
  have t1 := Go.Qm.Arr.cell R4 1
  have t2 := Go.Qm.Arr.cell R4 2
  have t3 := Go.Qm.Arr.cell R4 3
  have z0 := Go.Qm.Arr.frozen R4 0
  have z1 := Go.Qm.Arr.frozen R4 1
  have z2 := Go.Qm.Arr.frozen R4 2
  have z3 := Go.Qm.Arr.frozen R4 3
  simp only [List.getElem?_cons_zero, List.getElem?_cons_succ] at t0 t1 t2 t3
  all_goals
    first | go_wp2_with fail | skip
    have AZ := (((Go.Qm.Arr.set R4 0 (.int .i64 1)).set 1 (str [])).set 2 (.int .i64 0)).set 3 (.slice none 0 0)
    have q0 := Go.Qm.Arr.cell AZ 0
    have q1 := Go.Qm.Arr.cell AZ 1
    have q2 := Go.Qm.Arr.cell AZ 2
    have q3 := Go.Qm.Arr.cell AZ 3
    simp only [List.set_cons_zero, List.set_cons_succ, List.getElem?_cons_zero, List.getElem?_cons_succ] at q0 q1 q2 q3
    have GZ := grown_set (grown_set (grown_set (grown_set (grown_refl w2 (some gR)) 0 (.int .i64 1)) 1 (str [])) 2 (.int .i64 0)) 3 (.slice none 0 0)
    refine bodyPost_ret (v := .agg #[.int .i64 1, str [], .int .i64 0, (.slice none 0 0)]) (by simp [results, Try.results10, go_sem, q0, q1, q2, q3]) rfl ?_
    exact PlayP.plain h K1.drew h1 h2 kk (ans 1) rfl GZ
set_option maxRecDepth 4000 in
set_option maxHeartbeats 4000000 in
theorem play2n (d : Nat) (l what : Int) (name : List UInt8) (h : WW B fp w gs gc N R) (hw : Arr w gw 38 [.pointer (some ⟨gs, 0, none⟩), .pointer (some ⟨gc, 0, none⟩)]) (hN : N ≤ 1000000000000) (hnm : name.length ≤ 1000000) (hgw : ¬ fp gw) (hd : d < 24) (l' : Nat) (hl : l' < 8) (hl' : l = (l' : Int)) (hne : name ≠ []) (hh : hasR name (R d l') = false) :
    Calls Try.prog 10 #[.pointer (some ⟨gw, 0, none⟩), .agg #[.int .i64 2, .int .i64 d, .int .i64 l, str name, .int .i64 what]] w fun e w' => PlayP B fp w gs gc N (ans 4, R) e w' := by
  have CC : ∀ W, Keep w W → Calls Try.prog 28 #[.pointer (some ⟨gs, 0, none⟩), .int .i64 d, .int .i64 l, str name] W fun e w' => RetW B fp W gs gc N R (.returned (.int .i64 4)) e w' := fun W q => by
    rw [hl']
    refine (removeW d l' name (h.keep q) hd hl hne).mono ?_
    rintro e w' (⟨a, rfl, W2, st⟩ | ⟨a, rfl, _⟩)
    · exact ⟨fp, rfl, W2, st⟩
    · rw [hh] at a; cases a
  clear hl'
  have HCC := Hid.mk CC
  clear CC
  have K1 := ((Keep.refl w).alloc (.cells #[.int .i64 2, .int .i64 d, .int .i64 l, str name, .int .i64 what] 32)).alloc (.cells #[.int .i64 0, str [], .int .i64 0, .slice none 0 0] 29)
  have O1 := (Arr.new w 32 [.int .i64 2, .int .i64 d, .int .i64 l, str name, .int .i64 what]).keep ((Keep.refl _).alloc (.cells #[.int .i64 0, str [], .int .i64 0, .slice none 0 0] 29))
  have R1 := Arr.new (w.alloc (.cells #[.int .i64 2, .int .i64 d, .int .i64 l, str name, .int .i64 what] 32)) 29 [.int .i64 0, str [], .int .i64 0, .slice none 0 0]
  rw [show (w.alloc (.cells #[.int .i64 2, .int .i64 d, .int .i64 l, str name, .int .i64 what] 32)).heap.size = w.heap.size + 1 by simp] at R1
  have g0 := Go.Qm.Arr.cell (hw.keep K1) 0
  have g1 := Go.Qm.Arr.cell (hw.keep K1) 1
  simp only [List.getElem?_cons_zero, List.getElem?_cons_succ] at g0 g1
  have o0 := Go.Qm.Arr.cell O1 0
  have o1 := Go.Qm.Arr.cell O1 1
  have o2 := Go.Qm.Arr.cell O1 2
  have o3 := Go.Qm.Arr.cell O1 3
  have o4 := Go.Qm.Arr.cell O1 4
  simp only [List.getElem?_cons_zero, List.getElem?_cons_succ] at o0 o1 o2 o3 o4
  have h1 : w.heap.size ≤ w.heap.size + 1 := Nat.le_succ _
  have h2 := R1.lt
  go_enter Try.func10, Try.ntmps10
  go_upto_region 8 with fail
  generalize (w.alloc (.cells #[.int .i64 2, .int .i64 d, .int .i64 l, str name, .int .i64 what] 32)).alloc (.cells #[.int .i64 0, str [], .int .i64 0, .slice none 0 0] 29) = w1 at *
  have HO := Hid.mk O1
  have HG := Hid.mk (hw.keep K1)
  clear O1
  have hO : Hid (w.heap.size ≤ w.heap.size) := Hid.mk (Nat.le_refl _)
  generalize w.heap.size + 1 = gR at *
  have u1 := Go.Qm.Arr.cell HO.out 1; have u2 := Go.Qm.Arr.cell HO.out 2; have u3 := Go.Qm.Arr.cell HO.out 3; have u4 := Go.Qm.Arr.cell HO.out 4; have u5 := Go.Qm.Arr.cell HG.out 0; have u6 := Go.Qm.Arr.cell HG.out 1; simp only [List.getElem?_cons_zero, List.getElem?_cons_succ] at u1 u2 u3 u4 u5 u6
  go_region_held3 (fun w' => w'.cell? ⟨gw, 0, none⟩ = some (.pointer (some ⟨gs, 0, none⟩)) ∧ w'.cell? ⟨w.heap.size, 1, none⟩ = some (.int .i64 d) ∧ w'.cell? ⟨w.heap.size, 2, none⟩ = some (.int .i64 l) ∧ w'.cell? ⟨w.heap.size, 3, none⟩ = some (str name))
    (first | exact ⟨x5, x1, x2, x3⟩ | exact ⟨u5, u1, u2, u3⟩)
    ((go_at_call 28; refine (HCC.out _ K1.drew).mono ?_; rintro e w2 ⟨fp', rfl, W2, st⟩; have Ax := HO.out.drew.stp h hO.out st; have Gx := HG.out.drew.fpS hgw st; have x1 := Go.Qm.Arr.cell Ax 1; have x2 := Go.Qm.Arr.cell Ax 2; have x3 := Go.Qm.Arr.cell Ax 3; have x4 := Go.Qm.Arr.cell Ax 4; have x5 := Go.Qm.Arr.cell Gx 0; have x6 := Go.Qm.Arr.cell Gx 1; simp only [List.getElem?_cons_zero, List.getElem?_cons_succ] at x1 x2 x3 x4 x5 x6))
  have R4 := R1.drew.stp h h1 st
  have t0 := Go.Qm.Arr.cell R4 0
  have t1 := Go.Qm.Arr.cell R4 1
  have t2 := Go.Qm.Arr.cell R4 2
  have t3 := Go.Qm.Arr.cell R4 3
  have z0 := Go.Qm.Arr.frozen R4 0
  have z1 := Go.Qm.Arr.frozen R4 1
  have z2 := Go.Qm.Arr.frozen R4 2
  have z3 := Go.Qm.Arr.frozen R4 3
  simp only [List.getElem?_cons_zero, List.getElem?_cons_succ] at t0 t1 t2 t3
  all_goals
    first | go_wp2_with fail | skip
    have AZ := (((Go.Qm.Arr.set R4 0 (.int .i64 4)).set 1 (str [])).set 2 (.int .i64 0)).set 3 (.slice none 0 0)
    have q0 := Go.Qm.Arr.cell AZ 0
    have q1 := Go.Qm.Arr.cell AZ 1
    have q2 := Go.Qm.Arr.cell AZ 2
    have q3 := Go.Qm.Arr.cell AZ 3
    simp only [List.set_cons_zero, List.set_cons_succ, List.getElem?_cons_zero, List.getElem?_cons_succ] at q0 q1 q2 q3
    have GZ := grown_set (grown_set (grown_set (grown_set (grown_refl w2 (some gR)) 0 (.int .i64 4)) 1 (str [])) 2 (.int .i64 0)) 3 (.slice none 0 0)
    refine bodyPost_ret (v := .agg #[.int .i64 4, str [], .int .i64 0, (.slice none 0 0)]) (by simp [results, Try.results10, go_sem, q0, q1, q2, q3]) rfl ?_
    exact PlayP.fin (a := ans 4) h K1.drew h1 h2 st (W2.le (Nat.le_succ _)) (OwnS.nil _ _ _ _ _) GZ
end
end Go.Proofs.Qxb6500766a
