/- foldindexlaw: play (next). -/
import Derived.Test.Qxb6500766aDl
import Derived.Deep.RegionWith
namespace Go.Proofs.Qxb6500766a
open Go.RowKit Go.Qm
set_option linter.unusedVariables false
set_option linter.unusedSimpArgs false
attribute [local go_sem ↓] Go.wp_at_zero Go.wp_at_succ
section
variable {B : Nat} {fp : Nat → Prop} {w : World} {gs gc gw N : Nat} {R : Sys}
set_option maxRecDepth 4000 in
set_option maxHeartbeats 4000000 in
theorem play4n (d : Int) (l what : Int) (name : List UInt8) (h : WW B fp w gs gc N R) (hw : Arr w gw 38 [.pointer (some ⟨gs, 0, none⟩), .pointer (some ⟨gc, 0, none⟩)]) (hN : N ≤ 1000000000000) (hnm : name.length ≤ 1000000) (hne : name ≠ []) (hk : keyF name = none) :
    Calls Try.prog 10 #[.pointer (some ⟨gw, 0, none⟩), .agg #[.int .i64 4, .int .i64 d, .int .i64 l, str name, .int .i64 what]] w fun e w' => PlayP B fp w gs gc N (ans 5, R) e w' := by
  have KC := fun W => key_c name W hnm
  have HKC := Hid.mk KC
  clear KC
  have n1 : (name == []) = false := by simpa using hne
  have n2 : (name != []) = true := by simpa using hne
  have HK := Hid.mk hk
  clear hk
  have K1 := ((Keep.refl w).alloc (.cells #[.int .i64 4, .int .i64 d, .int .i64 l, str name, .int .i64 what] 32)).alloc (.cells #[.int .i64 0, str [], .int .i64 0, .slice none 0 0] 29)
  have O1 := (Arr.new w 32 [.int .i64 4, .int .i64 d, .int .i64 l, str name, .int .i64 what]).keep ((Keep.refl _).alloc (.cells #[.int .i64 0, str [], .int .i64 0, .slice none 0 0] 29))
  have R1 := Arr.new (w.alloc (.cells #[.int .i64 4, .int .i64 d, .int .i64 l, str name, .int .i64 what] 32)) 29 [.int .i64 0, str [], .int .i64 0, .slice none 0 0]
  rw [show (w.alloc (.cells #[.int .i64 4, .int .i64 d, .int .i64 l, str name, .int .i64 what] 32)).heap.size = w.heap.size + 1 by simp] at R1
  have g0 := Go.Qm.Arr.cell (hw.keep K1) 0
  have g1 := Go.Qm.Arr.cell (hw.keep K1) 1
  simp only [List.getElem?_cons_zero, List.getElem?_cons_succ] at g0 g1
  have o0 := Go.Qm.Arr.cell O1 0
  have o1 := Go.Qm.Arr.cell O1 1
  have o2 := Go.Qm.Arr.cell O1 2
  have o3 := Go.Qm.Arr.cell O1 3
  have o4 := Go.Qm.Arr.cell O1 4
  simp only [List.getElem?_cons_zero, List.getElem?_cons_succ] at o0 o1 o2 o3 o4
  have h1 : w.heap.size ≤ w.heap.size + 1 := Nat.le_succ _
  have h2 := R1.lt
  go_enter Try.func10, Try.ntmps10
  go_wp2_with fail
  generalize (w.alloc (.cells #[.int .i64 4, .int .i64 d, .int .i64 l, str name, .int .i64 what] 32)).alloc (.cells #[.int .i64 0, str [], .int .i64 0, .slice none 0 0] 29) = w1 at *
  clear O1
  generalize w.heap.size + 1 = gR at *
  refine (HKC.out _).mono ?_
  rintro e w2 ⟨hk, k2⟩
  rcases hk with ⟨hK, rfl⟩ | ⟨k', hK, rfl⟩
  · clear hK
    have R4 := R1.keep k2
    have t0 := Go.Qm.Arr.cell R4 0
    have t1 := Go.Qm.Arr.cell R4 1
    have t2 := Go.Qm.Arr.cell R4 2
    have t3 := Go.Qm.Arr.cell R4 3
    have z0 := Go.Qm.Arr.frozen R4 0
    have z1 := Go.Qm.Arr.frozen R4 1
    have z2 := Go.Qm.Arr.frozen R4 2
    have z3 := Go.Qm.Arr.frozen R4 3
    simp only [List.getElem?_cons_zero, List.getElem?_cons_succ] at t0 t1 t2 t3
    all_goals
      first | go_wp2_with fail | skip
      have AZ := (((Go.Qm.Arr.set R4 0 (.int .i64 5)).set 1 (str [])).set 2 (.int .i64 0)).set 3 (.slice none 0 0)
      have q0 := Go.Qm.Arr.cell AZ 0
      have q1 := Go.Qm.Arr.cell AZ 1
      have q2 := Go.Qm.Arr.cell AZ 2
      have q3 := Go.Qm.Arr.cell AZ 3
      simp only [List.set_cons_zero, List.set_cons_succ, List.getElem?_cons_zero, List.getElem?_cons_succ] at q0 q1 q2 q3
      have GZ := grown_set (grown_set (grown_set (grown_set (grown_refl w2 (some gR)) 0 (.int .i64 5)) 1 (str [])) 2 (.int .i64 0)) 3 (.slice none 0 0)
      refine bodyPost_ret (v := .agg #[.int .i64 5, str [], .int .i64 0, (.slice none 0 0)]) (by simp [results, Try.results10, go_sem, q0, q1, q2, q3]) rfl ?_
      exact PlayP.plain h K1 h1 h2 k2 (ans 5) rfl GZ
  · rw [HK.out] at hK; cases hK
set_option maxRecDepth 4000 in
set_option maxHeartbeats 4000000 in
theorem play4 (d : Nat) (l what : Int) (name : List UInt8) (h : WW B fp w gs gc N R) (hw : Arr w gw 38 [.pointer (some ⟨gs, 0, none⟩), .pointer (some ⟨gc, 0, none⟩)]) (hN : N ≤ 1000000000000) (hnm : name.length ≤ 1000000) (hne : name ≠ []) (hd : d < 24) (k : List UInt8) (hk : keyF name = some k) :
    Calls Try.prog 10 #[.pointer (some ⟨gw, 0, none⟩), .agg #[.int .i64 4, .int .i64 d, .int .i64 l, str name, .int .i64 what]] w fun e w' => PlayP B fp w gs gc N (⟨nextE (nextK (R d) k), accK (nextK (R d) k), 0, []⟩, R) e w' := by
  have KC := fun W => key_c name W hnm
  have HKC := Hid.mk KC
  clear KC
  have n1 : (name == []) = false := by simpa using hne
  have n2 : (name != []) = true := by simpa using hne
  have HK := Hid.mk hk
  have hkl := (keyF_some hk).2.1
  clear hk
  have CC := fun W (q : Keep w W) => nextW d k (h.keep q) hd hN (by omega)
  generalize nextE (nextK (R d) k) = ne at *
  generalize accK (nextK (R d) k) = na at *
  have HCC := Hid.mk CC
  clear CC
  have K1 := ((Keep.refl w).alloc (.cells #[.int .i64 4, .int .i64 d, .int .i64 l, str name, .int .i64 what] 32)).alloc (.cells #[.int .i64 0, str [], .int .i64 0, .slice none 0 0] 29)
  have O1 := (Arr.new w 32 [.int .i64 4, .int .i64 d, .int .i64 l, str name, .int .i64 what]).keep ((Keep.refl _).alloc (.cells #[.int .i64 0, str [], .int .i64 0, .slice none 0 0] 29))
  have R1 := Arr.new (w.alloc (.cells #[.int .i64 4, .int .i64 d, .int .i64 l, str name, .int .i64 what] 32)) 29 [.int .i64 0, str [], .int .i64 0, .slice none 0 0]
  rw [show (w.alloc (.cells #[.int .i64 4, .int .i64 d, .int .i64 l, str name, .int .i64 what] 32)).heap.size = w.heap.size + 1 by simp] at R1
  have g0 := Go.Qm.Arr.cell (hw.keep K1) 0
  have g1 := Go.Qm.Arr.cell (hw.keep K1) 1
  simp only [List.getElem?_cons_zero, List.getElem?_cons_succ] at g0 g1
  have o0 := Go.Qm.Arr.cell O1 0
  have o1 := Go.Qm.Arr.cell O1 1
  have o2 := Go.Qm.Arr.cell O1 2
  have o3 := Go.Qm.Arr.cell O1 3
  have o4 := Go.Qm.Arr.cell O1 4
  simp only [List.getElem?_cons_zero, List.getElem?_cons_succ] at o0 o1 o2 o3 o4
  have h1 : w.heap.size ≤ w.heap.size + 1 := Nat.le_succ _
  have h2 := R1.lt
  go_enter Try.func10, Try.ntmps10
  go_wp2_with fail
  generalize (w.alloc (.cells #[.int .i64 4, .int .i64 d, .int .i64 l, str name, .int .i64 what] 32)).alloc (.cells #[.int .i64 0, str [], .int .i64 0, .slice none 0 0] 29) = w1 at *
  clear O1
  generalize w.heap.size + 1 = gR at *
  refine (HKC.out _).mono ?_
  rintro e w2 ⟨hk, k2⟩
  rcases hk with ⟨hK, rfl⟩ | ⟨k', hK, rfl⟩
  · rw [HK.out] at hK; cases hK
  · have e' : k' = k := by rw [HK.out] at hK; exact (Option.some.inj hK).symm
    subst e'
    clear hK
    have K2 := K1.trans k2
    have g1 := k2.cell g1
    have o1 := k2.cell o1
    have R2 := R1.keep k2
    have h2 : gR < w2.heap.size := Nat.lt_of_lt_of_le h2 k2.size
    go_upto_region 27 with fail
    go_region_with (go_at_call 21; refine (HCC.out _ K2.drew).mono ?_; rintro e w3 ⟨fp', rfl, W2, st⟩; have R4 := R2.drew.stp h h1 st; have t0 := Go.Qm.Arr.cell R4 0; have t1 := Go.Qm.Arr.cell R4 1; have t2 := Go.Qm.Arr.cell R4 2; have t3 := Go.Qm.Arr.cell R4 3; have z0 := Go.Qm.Arr.frozen R4 0; have z1 := Go.Qm.Arr.frozen R4 1; have z2 := Go.Qm.Arr.frozen R4 2; have z3 := Go.Qm.Arr.frozen R4 3; simp only [List.getElem?_cons_zero, List.getElem?_cons_succ] at t0 t1 t2 t3)
    all_goals
      first | go_wp2_with fail | skip
      have AZ := (((Go.Qm.Arr.set R4 0 (.int .i64 ne)).set 1 (str na)).set 2 (.int .i64 0)).set 3 (.slice none 0 0)
      have q0 := Go.Qm.Arr.cell AZ 0
      have q1 := Go.Qm.Arr.cell AZ 1
      have q2 := Go.Qm.Arr.cell AZ 2
      have q3 := Go.Qm.Arr.cell AZ 3
      simp only [List.set_cons_zero, List.set_cons_succ, List.getElem?_cons_zero, List.getElem?_cons_succ] at q0 q1 q2 q3
      have GZ := grown_set (grown_set (grown_set (grown_set (grown_refl w3 (some gR)) 0 (.int .i64 ne)) 1 (str na)) 2 (.int .i64 0)) 3 (.slice none 0 0)
      refine bodyPost_ret (v := .agg #[.int .i64 ne, str na, .int .i64 0, (.slice none 0 0)]) (by simp [results, Try.results10, go_sem, q0, q1, q2, q3]) rfl ?_
      exact PlayP.fin (a := ⟨ne, na, 0, []⟩) h K2.drew h1 h2 st W2 (OwnS.nil _ _ _ _ _) GZ
set_option maxRecDepth 4000 in
set_option maxHeartbeats 4000000 in
theorem play4b (d : Int) (l what : Int) (name : List UInt8) (h : WW B fp w gs gc N R) (hw : Arr w gw 38 [.pointer (some ⟨gs, 0, none⟩), .pointer (some ⟨gc, 0, none⟩)]) (hN : N ≤ 1000000000000) (hnm : name.length ≤ 1000000) (hne : name ≠ []) (hd : dirB d = false) (k : List UInt8) (hk : keyF name = some k) :
    Calls Try.prog 10 #[.pointer (some ⟨gw, 0, none⟩), .agg #[.int .i64 4, .int .i64 d, .int .i64 l, str name, .int .i64 what]] w fun e w' => PlayP B fp w gs gc N (ans 1, R) e w' := by
  have KC := fun W => key_c name W hnm
  have HKC := Hid.mk KC
  clear KC
  have n1 : (name == []) = false := by simpa using hne
  have n2 : (name != []) = true := by simpa using hne
  have HK := Hid.mk hk
  clear hk
  have CC := fun p kv W => nextBad d p kv W hd
  have HCC := Hid.mk CC
  clear CC
  have K1 := ((Keep.refl w).alloc (.cells #[.int .i64 4, .int .i64 d, .int .i64 l, str name, .int .i64 what] 32)).alloc (.cells #[.int .i64 0, str [], .int .i64 0, .slice none 0 0] 29)
  have O1 := (Arr.new w 32 [.int .i64 4, .int .i64 d, .int .i64 l, str name, .int .i64 what]).keep ((Keep.refl _).alloc (.cells #[.int .i64 0, str [], .int .i64 0, .slice none 0 0] 29))
  have R1 := Arr.new (w.alloc (.cells #[.int .i64 4, .int .i64 d, .int .i64 l, str name, .int .i64 what] 32)) 29 [.int .i64 0, str [], .int .i64 0, .slice none 0 0]
  rw [show (w.alloc (.cells #[.int .i64 4, .int .i64 d, .int .i64 l, str name, .int .i64 what] 32)).heap.size = w.heap.size + 1 by simp] at R1
  have g0 := Go.Qm.Arr.cell (hw.keep K1) 0
  have g1 := Go.Qm.Arr.cell (hw.keep K1) 1
  simp only [List.getElem?_cons_zero, List.getElem?_cons_succ] at g0 g1
  have o0 := Go.Qm.Arr.cell O1 0
  have o1 := Go.Qm.Arr.cell O1 1
  have o2 := Go.Qm.Arr.cell O1 2
  have o3 := Go.Qm.Arr.cell O1 3
  have o4 := Go.Qm.Arr.cell O1 4
  simp only [List.getElem?_cons_zero, List.getElem?_cons_succ] at o0 o1 o2 o3 o4
  have h1 : w.heap.size ≤ w.heap.size + 1 := Nat.le_succ _
  have h2 := R1.lt
  go_enter Try.func10, Try.ntmps10
  go_wp2_with fail
  generalize (w.alloc (.cells #[.int .i64 4, .int .i64 d, .int .i64 l, str name, .int .i64 what] 32)).alloc (.cells #[.int .i64 0, str [], .int .i64 0, .slice none 0 0] 29) = w1 at *
  clear O1
  generalize w.heap.size + 1 = gR at *
  refine (HKC.out _).mono ?_
  rintro e w2 ⟨hk, k2⟩
  rcases hk with ⟨hK, rfl⟩ | ⟨k', hK, rfl⟩
  · rw [HK.out] at hK; cases hK
  · clear hK
    have K2 := K1.trans k2
    have g1 := k2.cell g1
    have o1 := k2.cell o1
    have R2 := R1.keep k2
    have h2 : gR < w2.heap.size := Nat.lt_of_lt_of_le h2 k2.size
    go_upto_region 27 with fail
    go_region_with (go_at_call 21; refine (HCC.out _ _ _).mono ?_; rintro e w3 ⟨rfl, hw3⟩; have kk : Keep w2.drew w3 := (by rw [hw3]; exact Keep.refl _); clear hw3; have R4 := R2.drew.keep kk; have t0 := Go.Qm.Arr.cell R4 0; have t1 := Go.Qm.Arr.cell R4 1; have t2 := Go.Qm.Arr.cell R4 2; have t3 := Go.Qm.Arr.cell R4 3; have z0 := Go.Qm.Arr.frozen R4 0; have z1 := Go.Qm.Arr.frozen R4 1; have z2 := Go.Qm.Arr.frozen R4 2; have z3 := Go.Qm.Arr.frozen R4 3; simp only [List.getElem?_cons_zero, List.getElem?_cons_succ] at t0 t1 t2 t3)
    all_goals
      first | go_wp2_with fail | skip
      have AZ := (((Go.Qm.Arr.set R4 0 (.int .i64 1)).set 1 (str [])).set 2 (.int .i64 0)).set 3 (.slice none 0 0)
      have q0 := Go.Qm.Arr.cell AZ 0
      have q1 := Go.Qm.Arr.cell AZ 1
      have q2 := Go.Qm.Arr.cell AZ 2
      have q3 := Go.Qm.Arr.cell AZ 3
      simp only [List.set_cons_zero, List.set_cons_succ, List.getElem?_cons_zero, List.getElem?_cons_succ] at q0 q1 q2 q3
      have GZ := grown_set (grown_set (grown_set (grown_set (grown_refl w3 (some gR)) 0 (.int .i64 1)) 1 (str [])) 2 (.int .i64 0)) 3 (.slice none 0 0)
      refine bodyPost_ret (v := .agg #[.int .i64 1, str [], .int .i64 0, (.slice none 0 0)]) (by simp [results, Try.results10, go_sem, q0, q1, q2, q3]) rfl ?_
      exact PlayP.plain h K2.drew h1 h2 kk (ans 1) rfl GZ
end
end Go.Proofs.Qxb6500766a
