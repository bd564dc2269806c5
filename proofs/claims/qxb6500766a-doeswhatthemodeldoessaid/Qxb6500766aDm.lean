/- foldindexlaw: play (count). -/
import Derived.Test.Qxb6500766aDl
import Derived.Deep.RegionWith
namespace Go.Proofs.Qxb6500766a
open Go.RowKit Go.Qm
set_option linter.unusedVariables false
set_option linter.unusedSimpArgs false
attribute [local go_sem ↓] Go.wp_at_zero Go.wp_at_succ
section
variable {B : Nat} {fp : Nat → Prop} {w : World} {gs gc gw N : Nat} {R : Sys}
set_option maxRecDepth 4000 in
set_option maxHeartbeats 4000000 in
theorem play5 (d : Nat) (l what : Int) (name : List UInt8) (h : WW B fp w gs gc N R) (hw : Arr w gw 38 [.pointer (some ⟨gs, 0, none⟩), .pointer (some ⟨gc, 0, none⟩)]) (hN : N ≤ 1000000000000) (hnm : name.length ≤ 1000000) (hd : d < 24) :
    Calls Try.prog 10 #[.pointer (some ⟨gw, 0, none⟩), .agg #[.int .i64 5, .int .i64 d, .int .i64 l, str name, .int .i64 what]] w fun e w' => PlayP B fp w gs gc N (⟨0, [], cntK (R d), []⟩, R) e w' := by
  have CC := fun W (k : Keep w W) => countW d (h.keep k) hd hN
  generalize cntK (R d) = c at *
  have HCC := Hid.mk CC
  clear CC
  have K1 := ((Keep.refl w).alloc (.cells #[.int .i64 5, .int .i64 d, .int .i64 l, str name, .int .i64 what] 32)).alloc (.cells #[.int .i64 0, str [], .int .i64 0, .slice none 0 0] 29)
  have O1 := (Arr.new w 32 [.int .i64 5, .int .i64 d, .int .i64 l, str name, .int .i64 what]).keep ((Keep.refl _).alloc (.cells #[.int .i64 0, str [], .int .i64 0, .slice none 0 0] 29))
  have R1 := Arr.new (w.alloc (.cells #[.int .i64 5, .int .i64 d, .int .i64 l, str name, .int .i64 what] 32)) 29 [.int .i64 0, str [], .int .i64 0, .slice none 0 0]
  rw [show (w.alloc (.cells #[.int .i64 5, .int .i64 d, .int .i64 l, str name, .int .i64 what] 32)).heap.size = w.heap.size + 1 by simp] at R1
  have g0 := Go.Qm.Arr.cell (hw.keep K1) 0
  have g1 := Go.Qm.Arr.cell (hw.keep K1) 1
  simp only [List.getElem?_cons_zero, List.getElem?_cons_succ] at g0 g1
  have o0 := Go.Qm.Arr.cell O1 0
  have o1 := Go.Qm.Arr.cell O1 1
  have o2 := Go.Qm.Arr.cell O1 2
  have o3 := Go.Qm.Arr.cell O1 3
  have o4 := Go.Qm.Arr.cell O1 4
  simp only [List.getElem?_cons_zero, List.getElem?_cons_succ] at o0 o1 o2 o3 o4
  have h1 : w.heap.size ≤ w.heap.size + 1 := Nat.le_succ _
  have h2 := R1.lt
  go_enter Try.func10, Try.ntmps10
  go_upto_region 30 with fail
  generalize (w.alloc (.cells #[.int .i64 5, .int .i64 d, .int .i64 l, str name, .int .i64 what] 32)).alloc (.cells #[.int .i64 0, str [], .int .i64 0, .slice none 0 0] 29) = w1 at *
  clear O1
  generalize w.heap.size + 1 = gR at *
  go_region_with (go_at_call 20; refine (HCC.out _ K1.drew).mono ?_; rintro e w2 ⟨fp', rfl, W2, st⟩; have R4 := R1.drew.stp h h1 st; have t0 := Go.Qm.Arr.cell R4 0; have t1 := Go.Qm.Arr.cell R4 1; have t2 := Go.Qm.Arr.cell R4 2; have t3 := Go.Qm.Arr.cell R4 3; have z0 := Go.Qm.Arr.frozen R4 0; have z1 := Go.Qm.Arr.frozen R4 1; have z2 := Go.Qm.Arr.frozen R4 2; have z3 := Go.Qm.Arr.frozen R4 3; simp only [List.getElem?_cons_zero, List.getElem?_cons_succ] at t0 t1 t2 t3)
  all_goals
    first | go_wp2_with fail | skip
    have AZ := (((Go.Qm.Arr.set R4 0 (.int .i64 0)).set 1 (str [])).set 2 (.int .i64 (c : Int))).set 3 (.slice none 0 0)
    have q0 := Go.Qm.Arr.cell AZ 0
    have q1 := Go.Qm.Arr.cell AZ 1
    have q2 := Go.Qm.Arr.cell AZ 2
    have q3 := Go.Qm.Arr.cell AZ 3
    simp only [List.set_cons_zero, List.set_cons_succ, List.getElem?_cons_zero, List.getElem?_cons_succ] at q0 q1 q2 q3
    have GZ := grown_set (grown_set (grown_set (grown_set (grown_refl w2 (some gR)) 0 (.int .i64 0)) 1 (str [])) 2 (.int .i64 (c : Int))) 3 (.slice none 0 0)
    refine bodyPost_ret (v := .agg #[.int .i64 0, str [], .int .i64 (c : Int), (.slice none 0 0)]) (by simp [results, Try.results10, go_sem, q0, q1, q2, q3]) rfl ?_
    exact PlayP.fin (a := ⟨0, [], c, []⟩) h K1.drew h1 h2 st W2 (OwnS.nil _ _ _ _ _) GZ
set_option maxRecDepth 4000 in
set_option maxHeartbeats 4000000 in
theorem play5b (d : Int) (l what : Int) (name : List UInt8) (h : WW B fp w gs gc N R) (hw : Arr w gw 38 [.pointer (some ⟨gs, 0, none⟩), .pointer (some ⟨gc, 0, none⟩)]) (hN : N ≤ 1000000000000) (hnm : name.length ≤ 1000000) (hd : dirB d = false) :
    Calls Try.prog 10 #[.pointer (some ⟨gw, 0, none⟩), .agg #[.int .i64 5, .int .i64 d, .int .i64 l, str name, .int .i64 what]] w fun e w' => PlayP B fp w gs gc N (ans 1, R) e w' := by
  have CC := fun p W => countBad d p W hd
  have HCC := Hid.mk CC
  clear CC
  have K1 := ((Keep.refl w).alloc (.cells #[.int .i64 5, .int .i64 d, .int .i64 l, str name, .int .i64 what] 32)).alloc (.cells #[.int .i64 0, str [], .int .i64 0, .slice none 0 0] 29)
  have O1 := (Arr.new w 32 [.int .i64 5, .int .i64 d, .int .i64 l, str name, .int .i64 what]).keep ((Keep.refl _).alloc (.cells #[.int .i64 0, str [], .int .i64 0, .slice none 0 0] 29))
  have R1 := Arr.new (w.alloc (.cells #[.int .i64 5, .int .i64 d, .int .i64 l, str name, .int .i64 what] 32)) 29 [.int .i64 0, str [], .int .i64 0, .slice none 0 0]
  rw [show (w.alloc (.cells #[.int .i64 5, .int .i64 d, .int .i64 l, str name, .int .i64 what] 32)).heap.size = w.heap.size + 1 by simp] at R1
  have g0 := Go.Qm.Arr.cell (hw.keep K1) 0
  have g1 := Go.Qm.Arr.cell (hw.keep K1) 1
  simp only [List.getElem?_cons_zero, List.getElem?_cons_succ] at g0 g1
  have o0 := Go.Qm.Arr.cell O1 0
  have o1 := Go.Qm.Arr.cell O1 1
  have o2 := Go.Qm.Arr.cell O1 2
  have o3 := Go.Qm.Arr.cell O1 3
  have o4 := Go.Qm.Arr.cell O1 4
  simp only [List.getElem?_cons_zero, List.getElem?_cons_succ] at o0 o1 o2 o3 o4
  have h1 : w.heap.size ≤ w.heap.size + 1 := Nat.le_succ _
  have h2 := R1.lt
  go_enter Try.func10, Try.ntmps10
  go_upto_region 30 with fail
  generalize (w.alloc (.cells #[.int .i64 5, .int .i64 d, .int .i64 l, str name, .int .i64 what] 32)).alloc (.cells #[.int .i64 0, str [], .int .i64 0, .slice none 0 0] 29) = w1 at *
  clear O1
  generalize w.heap.size + 1 = gR at *
  go_region_with (go_at_call 20; refine (HCC.out _ _).mono ?_; rintro e w2 ⟨rfl, hw2⟩; have kk : Keep w1.drew w2 := (by rw [hw2]; exact Keep.refl _); clear hw2; have R4 := R1.drew.keep kk; have t0 := Go.Qm.Arr.cell R4 0; have t1 := Go.Qm.Arr.cell R4 1; have t2 := Go.Qm.Arr.cell R4 2; have t3 := Go.Qm.Arr.cell R4 3; have z0 := Go.Qm.Arr.frozen R4 0; have z1 := Go.Qm.Arr.frozen R4 1; have z2 := Go.Qm.Arr.frozen R4 2; have z3 := Go.Qm.Arr.frozen R4 3; simp only [List.getElem?_cons_zero, List.getElem?_cons_succ] at t0 t1 t2 t3)
  all_goals
    first | go_wp2_with fail | skip
    have AZ := (((Go.Qm.Arr.set R4 0 (.int .i64 1)).set 1 (str [])).set 2 (.int .i64 0)).set 3 (.slice none 0 0)
    have q0 := Go.Qm.Arr.cell AZ 0
    have q1 := Go.Qm.Arr.cell AZ 1
    have q2 := Go.Qm.Arr.cell AZ 2
    have q3 := Go.Qm.Arr.cell AZ 3
    simp only [List.set_cons_zero, List.set_cons_succ, List.getElem?_cons_zero, List.getElem?_cons_succ] at q0 q1 q2 q3
    have GZ := grown_set (grown_set (grown_set (grown_set (grown_refl w2 (some gR)) 0 (.int .i64 1)) 1 (str [])) 2 (.int .i64 0)) 3 (.slice none 0 0)
    refine bodyPost_ret (v := .agg #[.int .i64 1, str [], .int .i64 0, (.slice none 0 0)]) (by simp [results, Try.results10, go_sem, q0, q1, q2, q3]) rfl ?_
    exact PlayP.plain h K1.drew h1 h2 kk (ans 1) rfl GZ
end
end Go.Proofs.Qxb6500766a
