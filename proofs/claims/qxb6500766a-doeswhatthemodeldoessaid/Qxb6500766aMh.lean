/- foldindexm: Play (next, count). -/
import Derived.Test.Qxb6500766aMf
import Derived.Test.Qxb6500766aMc
import Derived.Test.Qxb6500766aMg
namespace Go.Proofs.Qxb6500766a
open Go Go.RowKit Go.Qm
set_option linter.unusedVariables false
set_option linter.unusedSimpArgs false
attribute [local go_sem ↓] Go.wp_at_zero Go.wp_at_succ
def nxA (o : Option (List UInt8)) : AnsV := match o with
  | none => ans 4
  | some x => ⟨0, x, 0, []⟩
section
variable {B : Nat} {fp : Nat → Prop} {w : World} {gm : Nat} {rows : List Row}
set_option maxRecDepth 4000 in
set_option maxHeartbeats 4000000 in
theorem mplay4b (d : Int) (l what : Int) (name : List UInt8) (h : MW B fp w gm rows) (hnm : name.length ≤ 1000000) (hne : name ≠ []) (hd : dirB d = false) (k : List UInt8) (hk : keyF name = some k) :
    Calls Try.prog 17 #[.pointer (some ⟨gm, 0, none⟩), .agg #[.int .i64 4, .int .i64 d, .int .i64 l, str name, .int .i64 what]] w fun e w' => MPlayP B fp w gm (ans 1, rows) e w' := by
  have KC := fun W => key_c name W hnm
  have HKC := Hid.mk KC
  clear KC
  have n1 : (name == []) = false := by simpa using hne
  have n2 : (name != []) = true := by simpa using hne
  have HK := Hid.mk hk
  clear hk
  have DO := fun W => dirOK_c d W
  rw [hd] at DO
  have HDO := Hid.mk DO
  clear DO
  have K1 := ((Keep.refl w).alloc (.cells #[.int .i64 4, .int .i64 d, .int .i64 l, str name, .int .i64 what] 32)).alloc (.cells #[.int .i64 0, str [], .int .i64 0, .slice none 0 0] 29)
  have O1 := (Arr.new w 32 [.int .i64 4, .int .i64 d, .int .i64 l, str name, .int .i64 what]).keep ((Keep.refl _).alloc (.cells #[.int .i64 0, str [], .int .i64 0, .slice none 0 0] 29))
  have R1 := Arr.new (w.alloc (.cells #[.int .i64 4, .int .i64 d, .int .i64 l, str name, .int .i64 what] 32)) 29 [.int .i64 0, str [], .int .i64 0, .slice none 0 0]
  rw [show (w.alloc (.cells #[.int .i64 4, .int .i64 d, .int .i64 l, str name, .int .i64 what] 32)).heap.size = w.heap.size + 1 by simp] at R1
  have o0 := Go.Qm.Arr.cell O1 0
  have o1 := Go.Qm.Arr.cell O1 1
  have o2 := Go.Qm.Arr.cell O1 2
  have o3 := Go.Qm.Arr.cell O1 3
  have o4 := Go.Qm.Arr.cell O1 4
  simp only [List.getElem?_cons_zero, List.getElem?_cons_succ] at o0 o1 o2 o3 o4
  have h1 : w.heap.size ≤ w.heap.size + 1 := Nat.le_succ _
  have h2 := R1.lt
  have hO : Hid (w.heap.size ≤ w.heap.size) := Hid.mk (Nat.le_refl _)
  go_enter Try.func17, Try.ntmps17
  go_wp2_with fail
  generalize (w.alloc (.cells #[.int .i64 4, .int .i64 d, .int .i64 l, str name, .int .i64 what] 32)).alloc (.cells #[.int .i64 0, str [], .int .i64 0, .slice none 0 0] 29) = w1 at *
  generalize w.heap.size + 1 = gR at *
  refine (HKC.out _).mono ?_
  rintro e w2 ⟨hk, k2⟩
  rcases hk with ⟨hK, rfl⟩ | ⟨k', hK, rfl⟩
  · rw [HK.out] at hK; cases hK
  · clear hK
    have K2 := K1.trans k2
    have o1 := k2.cell o1
    have R2 := R1.keep k2
    have h2 : gR < w2.heap.size := Nat.lt_of_lt_of_le h2 k2.size
    go_wp2_with fail
    refine (HDO.out _).mono ?_
    rintro e w3 ⟨rfl, rfl⟩
    have R4 := R2
    have t0 := Go.Qm.Arr.cell R4 0
    have t1 := Go.Qm.Arr.cell R4 1
    have t2 := Go.Qm.Arr.cell R4 2
    have t3 := Go.Qm.Arr.cell R4 3
    have z0 := Go.Qm.Arr.frozen R4 0
    have z1 := Go.Qm.Arr.frozen R4 1
    have z2 := Go.Qm.Arr.frozen R4 2
    have z3 := Go.Qm.Arr.frozen R4 3
    simp only [List.getElem?_cons_zero, List.getElem?_cons_succ] at t0 t1 t2 t3
    go_wp2_with fail
    have AZ := (((Go.Qm.Arr.set R4 0 (.int .i64 1)).set 1 (str [])).set 2 (.int .i64 0)).set 3 (.slice none 0 0)
    have q0 := Go.Qm.Arr.cell AZ 0
    have q1 := Go.Qm.Arr.cell AZ 1
    have q2 := Go.Qm.Arr.cell AZ 2
    have q3 := Go.Qm.Arr.cell AZ 3
    simp only [List.set_cons_zero, List.set_cons_succ, List.getElem?_cons_zero, List.getElem?_cons_succ] at q0 q1 q2 q3
    have GZ := grown_set (grown_set (grown_set (grown_set (grown_refl w3 (some gR)) 0 (.int .i64 1)) 1 (str [])) 2 (.int .i64 0)) 3 (.slice none 0 0)
    refine bodyPost_ret (v := .agg #[.int .i64 1, str [], .int .i64 0, (.slice none 0 0)]) (by simp [results, Try.results17, go_sem, q0, q1, q2, q3]) rfl ?_
    exact MPlayP.plain h K2 h1 h2 (Keep.refl _) (ans 1) rfl GZ
set_option maxRecDepth 4000 in
set_option maxHeartbeats 4000000 in
theorem mplay4 (d : Int) (l what : Int) (name : List UInt8) (h : MW B fp w gm rows) (hnm : name.length ≤ 1000000) (hlen : rows.length ≤ 65536) (hrn : ∀ r ∈ rows, r.raw.length ≤ 65536) (hne : name ≠ []) (hd : dirB d = true) (k : List UInt8) (hk : keyF name = some k) :
    Calls Try.prog 17 #[.pointer (some ⟨gm, 0, none⟩), .agg #[.int .i64 4, .int .i64 d, .int .i64 l, str name, .int .i64 what]] w fun e w' => MPlayP B fp w gm (nxA (mnextF d k rows), rows) e w' := by
  have KC := fun W => key_c name W hnm
  have HKC := Hid.mk KC
  clear KC
  have n1 : (name == []) = false := by simpa using hne
  have n2 : (name != []) = true := by simpa using hne
  have HK := Hid.mk hk
  have hkl := (keyF_some hk).2.1
  clear hk
  have DO := fun W => dirOK_c d W
  rw [hd] at DO
  have CC := fun W (q : Keep w W) => mnext_c d k (h.keep q) hlen hrn (by omega)
  generalize mnextF d k rows = o at *
  have HDO := Hid.mk DO
  clear DO
  have HCC := Hid.mk CC
  clear CC
  have K1 := ((Keep.refl w).alloc (.cells #[.int .i64 4, .int .i64 d, .int .i64 l, str name, .int .i64 what] 32)).alloc (.cells #[.int .i64 0, str [], .int .i64 0, .slice none 0 0] 29)
  have O1 := (Arr.new w 32 [.int .i64 4, .int .i64 d, .int .i64 l, str name, .int .i64 what]).keep ((Keep.refl _).alloc (.cells #[.int .i64 0, str [], .int .i64 0, .slice none 0 0] 29))
  have R1 := Arr.new (w.alloc (.cells #[.int .i64 4, .int .i64 d, .int .i64 l, str name, .int .i64 what] 32)) 29 [.int .i64 0, str [], .int .i64 0, .slice none 0 0]
  rw [show (w.alloc (.cells #[.int .i64 4, .int .i64 d, .int .i64 l, str name, .int .i64 what] 32)).heap.size = w.heap.size + 1 by simp] at R1
  have o0 := Go.Qm.Arr.cell O1 0
  have o1 := Go.Qm.Arr.cell O1 1
  have o2 := Go.Qm.Arr.cell O1 2
  have o3 := Go.Qm.Arr.cell O1 3
  have o4 := Go.Qm.Arr.cell O1 4
  simp only [List.getElem?_cons_zero, List.getElem?_cons_succ] at o0 o1 o2 o3 o4
  have h1 : w.heap.size ≤ w.heap.size + 1 := Nat.le_succ _
  have h2 := R1.lt
  have hO : Hid (w.heap.size ≤ w.heap.size) := Hid.mk (Nat.le_refl _)
  go_enter Try.func17, Try.ntmps17
  go_wp2_with fail
  generalize (w.alloc (.cells #[.int .i64 4, .int .i64 d, .int .i64 l, str name, .int .i64 what] 32)).alloc (.cells #[.int .i64 0, str [], .int .i64 0, .slice none 0 0] 29) = w1 at *
  generalize w.heap.size + 1 = gR at *
  refine (HKC.out _).mono ?_
  rintro e w2 ⟨hk, k2⟩
  rcases hk with ⟨hK, rfl⟩ | ⟨k', hK, rfl⟩
  · rw [HK.out] at hK; cases hK
  · have e' : k' = k := by rw [HK.out] at hK; exact (Option.some.inj hK).symm
    subst e'
    clear hK
    have K2 := K1.trans k2
    have o1 := k2.cell o1
    have R2 := R1.keep k2
    have h2 : gR < w2.heap.size := Nat.lt_of_lt_of_le h2 k2.size
    go_wp2_with fail
    refine (HDO.out _).mono ?_
    rintro e w3 ⟨rfl, rfl⟩
    go_wp2_with fail
    refine (HCC.out _ K2).mono ?_
    rintro e w4 ⟨rfl, k4⟩
    cases o with
    | none =>
      have R4 := R2.keep k4
      have t0 := Go.Qm.Arr.cell R4 0
      have t1 := Go.Qm.Arr.cell R4 1
      have t2 := Go.Qm.Arr.cell R4 2
      have t3 := Go.Qm.Arr.cell R4 3
      have z0 := Go.Qm.Arr.frozen R4 0
      have z1 := Go.Qm.Arr.frozen R4 1
      have z2 := Go.Qm.Arr.frozen R4 2
      have z3 := Go.Qm.Arr.frozen R4 3
      simp only [List.getElem?_cons_zero, List.getElem?_cons_succ] at t0 t1 t2 t3
      go_wp2_with fail
      have AZ := (((Go.Qm.Arr.set R4 0 (.int .i64 4)).set 1 (str [])).set 2 (.int .i64 0)).set 3 (.slice none 0 0)
      have q0 := Go.Qm.Arr.cell AZ 0
      have q1 := Go.Qm.Arr.cell AZ 1
      have q2 := Go.Qm.Arr.cell AZ 2
      have q3 := Go.Qm.Arr.cell AZ 3
      simp only [List.set_cons_zero, List.set_cons_succ, List.getElem?_cons_zero, List.getElem?_cons_succ] at q0 q1 q2 q3
      have GZ := grown_set (grown_set (grown_set (grown_set (grown_refl w4 (some gR)) 0 (.int .i64 4)) 1 (str [])) 2 (.int .i64 0)) 3 (.slice none 0 0)
      refine bodyPost_ret (v := .agg #[.int .i64 4, str [], .int .i64 0, (.slice none 0 0)]) (by simp [results, Try.results17, go_sem, q0, q1, q2, q3]) rfl ?_
      exact MPlayP.plain h K2 h1 h2 k4 (ans 4) rfl GZ
    | some x =>
      unfold accK
      simp only [Option.getD_some, Option.isSome_some]
      have R4 := R2.keep k4
      have t0 := Go.Qm.Arr.cell R4 0
      have t1 := Go.Qm.Arr.cell R4 1
      have t2 := Go.Qm.Arr.cell R4 2
      have t3 := Go.Qm.Arr.cell R4 3
      have z0 := Go.Qm.Arr.frozen R4 0
      have z1 := Go.Qm.Arr.frozen R4 1
      have z2 := Go.Qm.Arr.frozen R4 2
      have z3 := Go.Qm.Arr.frozen R4 3
      simp only [List.getElem?_cons_zero, List.getElem?_cons_succ] at t0 t1 t2 t3
      go_wp2_with fail
      have AZ := (((Go.Qm.Arr.set R4 0 (.int .i64 0)).set 1 (str x)).set 2 (.int .i64 0)).set 3 (.slice none 0 0)
      have q0 := Go.Qm.Arr.cell AZ 0
      have q1 := Go.Qm.Arr.cell AZ 1
      have q2 := Go.Qm.Arr.cell AZ 2
      have q3 := Go.Qm.Arr.cell AZ 3
      simp only [List.set_cons_zero, List.set_cons_succ, List.getElem?_cons_zero, List.getElem?_cons_succ] at q0 q1 q2 q3
      have GZ := grown_set (grown_set (grown_set (grown_set (grown_refl w4 (some gR)) 0 (.int .i64 0)) 1 (str x)) 2 (.int .i64 0)) 3 (.slice none 0 0)
      refine bodyPost_ret (v := .agg #[.int .i64 0, str x, .int .i64 0, (.slice none 0 0)]) (by simp [results, Try.results17, go_sem, q0, q1, q2, q3]) rfl ?_
      exact MPlayP.fin (a := ⟨0, x, 0, []⟩) h K2 h1 h2 (Stp.keep k4) (h.keep (K2.trans k4)) (OwnS.nil _ _ _ _ _) GZ
set_option maxRecDepth 4000 in
set_option maxHeartbeats 4000000 in
theorem mplay40b (d : Int) (l what : Int) (name : List UInt8) (h : MW B fp w gm rows) (hnm : name.length ≤ 1000000) (hd : dirB d = false) :
    Calls Try.prog 17 #[.pointer (some ⟨gm, 0, none⟩), .agg #[.int .i64 4, .int .i64 d, .int .i64 l, str [], .int .i64 what]] w fun e w' => MPlayP B fp w gm (ans 1, rows) e w' := by
  have DO := fun W => dirOK_c d W
  rw [hd] at DO
  have HDO := Hid.mk DO
  clear DO
  have K1 := ((Keep.refl w).alloc (.cells #[.int .i64 4, .int .i64 d, .int .i64 l, str [], .int .i64 what] 32)).alloc (.cells #[.int .i64 0, str [], .int .i64 0, .slice none 0 0] 29)
  have O1 := (Arr.new w 32 [.int .i64 4, .int .i64 d, .int .i64 l, str [], .int .i64 what]).keep ((Keep.refl _).alloc (.cells #[.int .i64 0, str [], .int .i64 0, .slice none 0 0] 29))
  have R1 := Arr.new (w.alloc (.cells #[.int .i64 4, .int .i64 d, .int .i64 l, str [], .int .i64 what] 32)) 29 [.int .i64 0, str [], .int .i64 0, .slice none 0 0]
  rw [show (w.alloc (.cells #[.int .i64 4, .int .i64 d, .int .i64 l, str [], .int .i64 what] 32)).heap.size = w.heap.size + 1 by simp] at R1
  have o0 := Go.Qm.Arr.cell O1 0
  have o1 := Go.Qm.Arr.cell O1 1
  have o2 := Go.Qm.Arr.cell O1 2
  have o3 := Go.Qm.Arr.cell O1 3
  have o4 := Go.Qm.Arr.cell O1 4
  simp only [List.getElem?_cons_zero, List.getElem?_cons_succ] at o0 o1 o2 o3 o4
  have h1 : w.heap.size ≤ w.heap.size + 1 := Nat.le_succ _
  have h2 := R1.lt
  have hO : Hid (w.heap.size ≤ w.heap.size) := Hid.mk (Nat.le_refl _)
  go_enter Try.func17, Try.ntmps17
  go_wp2_with fail
  generalize (w.alloc (.cells #[.int .i64 4, .int .i64 d, .int .i64 l, str [], .int .i64 what] 32)).alloc (.cells #[.int .i64 0, str [], .int .i64 0, .slice none 0 0] 29) = w1 at *
  generalize w.heap.size + 1 = gR at *
  refine (HDO.out _).mono ?_
  rintro e w3 ⟨rfl, rfl⟩
  have R4 := R1
  have t0 := Go.Qm.Arr.cell R4 0
  have t1 := Go.Qm.Arr.cell R4 1
  have t2 := Go.Qm.Arr.cell R4 2
  have t3 := Go.Qm.Arr.cell R4 3
  have z0 := Go.Qm.Arr.frozen R4 0
  have z1 := Go.Qm.Arr.frozen R4 1
  have z2 := Go.Qm.Arr.frozen R4 2
  have z3 := Go.Qm.Arr.frozen R4 3
  simp only [List.getElem?_cons_zero, List.getElem?_cons_succ] at t0 t1 t2 t3
  go_wp2_with fail
  have AZ := (((Go.Qm.Arr.set R4 0 (.int .i64 1)).set 1 (str [])).set 2 (.int .i64 0)).set 3 (.slice none 0 0)
  have q0 := Go.Qm.Arr.cell AZ 0
  have q1 := Go.Qm.Arr.cell AZ 1
  have q2 := Go.Qm.Arr.cell AZ 2
  have q3 := Go.Qm.Arr.cell AZ 3
  simp only [List.set_cons_zero, List.set_cons_succ, List.getElem?_cons_zero, List.getElem?_cons_succ] at q0 q1 q2 q3
  have GZ := grown_set (grown_set (grown_set (grown_set (grown_refl w3 (some gR)) 0 (.int .i64 1)) 1 (str [])) 2 (.int .i64 0)) 3 (.slice none 0 0)
  refine bodyPost_ret (v := .agg #[.int .i64 1, str [], .int .i64 0, (.slice none 0 0)]) (by simp [results, Try.results17, go_sem, q0, q1, q2, q3]) rfl ?_
  exact MPlayP.plain h K1 h1 h2 (Keep.refl _) (ans 1) rfl GZ
set_option maxRecDepth 4000 in
set_option maxHeartbeats 4000000 in
theorem mplay40 (d : Int) (l what : Int) (name : List UInt8) (h : MW B fp w gm rows) (hnm : name.length ≤ 1000000) (hlen : rows.length ≤ 65536) (hrn : ∀ r ∈ rows, r.raw.length ≤ 65536) (hd : dirB d = true) :
    Calls Try.prog 17 #[.pointer (some ⟨gm, 0, none⟩), .agg #[.int .i64 4, .int .i64 d, .int .i64 l, str [], .int .i64 what]] w fun e w' => MPlayP B fp w gm (nxA (mnextF d [] rows), rows) e w' := by
  have DO := fun W => dirOK_c d W
  rw [hd] at DO
  have CC := fun W (q : Keep w W) => mnext_c d [] (h.keep q) hlen hrn (by simp)
  generalize mnextF d [] rows = o at *
  have HDO := Hid.mk DO
  clear DO
  have HCC := Hid.mk CC
  clear CC
  have K1 := ((Keep.refl w).alloc (.cells #[.int .i64 4, .int .i64 d, .int .i64 l, str [], .int .i64 what] 32)).alloc (.cells #[.int .i64 0, str [], .int .i64 0, .slice none 0 0] 29)
  have O1 := (Arr.new w 32 [.int .i64 4, .int .i64 d, .int .i64 l, str [], .int .i64 what]).keep ((Keep.refl _).alloc (.cells #[.int .i64 0, str [], .int .i64 0, .slice none 0 0] 29))
  have R1 := Arr.new (w.alloc (.cells #[.int .i64 4, .int .i64 d, .int .i64 l, str [], .int .i64 what] 32)) 29 [.int .i64 0, str [], .int .i64 0, .slice none 0 0]
  rw [show (w.alloc (.cells #[.int .i64 4, .int .i64 d, .int .i64 l, str [], .int .i64 what] 32)).heap.size = w.heap.size + 1 by simp] at R1
  have o0 := Go.Qm.Arr.cell O1 0
  have o1 := Go.Qm.Arr.cell O1 1
  have o2 := Go.Qm.Arr.cell O1 2
  have o3 := Go.Qm.Arr.cell O1 3
  have o4 := Go.Qm.Arr.cell O1 4
  simp only [List.getElem?_cons_zero, List.getElem?_cons_succ] at o0 o1 o2 o3 o4
  have h1 : w.heap.size ≤ w.heap.size + 1 := Nat.le_succ _
  have h2 := R1.lt
  have hO : Hid (w.heap.size ≤ w.heap.size) := Hid.mk (Nat.le_refl _)
  go_enter Try.func17, Try.ntmps17
  go_wp2_with fail
  generalize (w.alloc (.cells #[.int .i64 4, .int .i64 d, .int .i64 l, str [], .int .i64 what] 32)).alloc (.cells #[.int .i64 0, str [], .int .i64 0, .slice none 0 0] 29) = w1 at *
  generalize w.heap.size + 1 = gR at *
  refine (HDO.out _).mono ?_
  rintro e w3 ⟨rfl, rfl⟩
  go_wp2_with fail
  refine (HCC.out _ K1).mono ?_
  rintro e w4 ⟨rfl, k4⟩
  cases o with
  | none =>
    have R4 := R1.keep k4
    have t0 := Go.Qm.Arr.cell R4 0
    have t1 := Go.Qm.Arr.cell R4 1
    have t2 := Go.Qm.Arr.cell R4 2
    have t3 := Go.Qm.Arr.cell R4 3
    have z0 := Go.Qm.Arr.frozen R4 0
    have z1 := Go.Qm.Arr.frozen R4 1
    have z2 := Go.Qm.Arr.frozen R4 2
    have z3 := Go.Qm.Arr.frozen R4 3
    simp only [List.getElem?_cons_zero, List.getElem?_cons_succ] at t0 t1 t2 t3
    go_wp2_with fail
    have AZ := (((Go.Qm.Arr.set R4 0 (.int .i64 4)).set 1 (str [])).set 2 (.int .i64 0)).set 3 (.slice none 0 0)
    have q0 := Go.Qm.Arr.cell AZ 0
    have q1 := Go.Qm.Arr.cell AZ 1
    have q2 := Go.Qm.Arr.cell AZ 2
    have q3 := Go.Qm.Arr.cell AZ 3
    simp only [List.set_cons_zero, List.set_cons_succ, List.getElem?_cons_zero, List.getElem?_cons_succ] at q0 q1 q2 q3
    have GZ := grown_set (grown_set (grown_set (grown_set (grown_refl w4 (some gR)) 0 (.int .i64 4)) 1 (str [])) 2 (.int .i64 0)) 3 (.slice none 0 0)
    refine bodyPost_ret (v := .agg #[.int .i64 4, str [], .int .i64 0, (.slice none 0 0)]) (by simp [results, Try.results17, go_sem, q0, q1, q2, q3]) rfl ?_
    exact MPlayP.plain h K1 h1 h2 k4 (ans 4) rfl GZ
  | some x =>
    unfold accK
    simp only [Option.getD_some, Option.isSome_some]
    have R4 := R1.keep k4
    have t0 := Go.Qm.Arr.cell R4 0
    have t1 := Go.Qm.Arr.cell R4 1
    have t2 := Go.Qm.Arr.cell R4 2
    have t3 := Go.Qm.Arr.cell R4 3
    have z0 := Go.Qm.Arr.frozen R4 0
    have z1 := Go.Qm.Arr.frozen R4 1
    have z2 := Go.Qm.Arr.frozen R4 2
    have z3 := Go.Qm.Arr.frozen R4 3
    simp only [List.getElem?_cons_zero, List.getElem?_cons_succ] at t0 t1 t2 t3
    go_wp2_with fail
    have AZ := (((Go.Qm.Arr.set R4 0 (.int .i64 0)).set 1 (str x)).set 2 (.int .i64 0)).set 3 (.slice none 0 0)
    have q0 := Go.Qm.Arr.cell AZ 0
    have q1 := Go.Qm.Arr.cell AZ 1
    have q2 := Go.Qm.Arr.cell AZ 2
    have q3 := Go.Qm.Arr.cell AZ 3
    simp only [List.set_cons_zero, List.set_cons_succ, List.getElem?_cons_zero, List.getElem?_cons_succ] at q0 q1 q2 q3
    have GZ := grown_set (grown_set (grown_set (grown_set (grown_refl w4 (some gR)) 0 (.int .i64 0)) 1 (str x)) 2 (.int .i64 0)) 3 (.slice none 0 0)
    refine bodyPost_ret (v := .agg #[.int .i64 0, str x, .int .i64 0, (.slice none 0 0)]) (by simp [results, Try.results17, go_sem, q0, q1, q2, q3]) rfl ?_
    exact MPlayP.fin (a := ⟨0, x, 0, []⟩) h K1 h1 h2 (Stp.keep k4) (h.keep (K1.trans k4)) (OwnS.nil _ _ _ _ _) GZ
set_option maxRecDepth 4000 in
set_option maxHeartbeats 4000000 in
theorem mplay5b (d : Int) (l what : Int) (name : List UInt8) (h : MW B fp w gm rows) (hnm : name.length ≤ 1000000) (hd : dirB d = false) :
    Calls Try.prog 17 #[.pointer (some ⟨gm, 0, none⟩), .agg #[.int .i64 5, .int .i64 d, .int .i64 l, str name, .int .i64 what]] w fun e w' => MPlayP B fp w gm (ans 1, rows) e w' := by
  have DO := fun W => dirOK_c d W
  rw [hd] at DO
  have HDO := Hid.mk DO
  clear DO
  have K1 := ((Keep.refl w).alloc (.cells #[.int .i64 5, .int .i64 d, .int .i64 l, str name, .int .i64 what] 32)).alloc (.cells #[.int .i64 0, str [], .int .i64 0, .slice none 0 0] 29)
  have O1 := (Arr.new w 32 [.int .i64 5, .int .i64 d, .int .i64 l, str name, .int .i64 what]).keep ((Keep.refl _).alloc (.cells #[.int .i64 0, str [], .int .i64 0, .slice none 0 0] 29))
  have R1 := Arr.new (w.alloc (.cells #[.int .i64 5, .int .i64 d, .int .i64 l, str name, .int .i64 what] 32)) 29 [.int .i64 0, str [], .int .i64 0, .slice none 0 0]
  rw [show (w.alloc (.cells #[.int .i64 5, .int .i64 d, .int .i64 l, str name, .int .i64 what] 32)).heap.size = w.heap.size + 1 by simp] at R1
  have o0 := Go.Qm.Arr.cell O1 0
  have o1 := Go.Qm.Arr.cell O1 1
  have o2 := Go.Qm.Arr.cell O1 2
  have o3 := Go.Qm.Arr.cell O1 3
  have o4 := Go.Qm.Arr.cell O1 4
  simp only [List.getElem?_cons_zero, List.getElem?_cons_succ] at o0 o1 o2 o3 o4
  have h1 : w.heap.size ≤ w.heap.size + 1 := Nat.le_succ _
  have h2 := R1.lt
  have hO : Hid (w.heap.size ≤ w.heap.size) := Hid.mk (Nat.le_refl _)
  go_enter Try.func17, Try.ntmps17
  go_wp2_with fail
  generalize (w.alloc (.cells #[.int .i64 5, .int .i64 d, .int .i64 l, str name, .int .i64 what] 32)).alloc (.cells #[.int .i64 0, str [], .int .i64 0, .slice none 0 0] 29) = w1 at *
  generalize w.heap.size + 1 = gR at *
  refine (HDO.out _).mono ?_
  rintro e w3 ⟨rfl, rfl⟩
  have R4 := R1
  have t0 := Go.Qm.Arr.cell R4 0
  have t1 := Go.Qm.Arr.cell R4 1
  have t2 := Go.Qm.Arr.cell R4 2
  have t3 := Go.Qm.Arr.cell R4 3
  have z0 := Go.Qm.Arr.frozen R4 0
  have z1 := Go.Qm.Arr.frozen R4 1
  have z2 := Go.Qm.Arr.frozen R4 2
  have z3 := Go.Qm.Arr.frozen R4 3
  simp only [List.getElem?_cons_zero, List.getElem?_cons_succ] at t0 t1 t2 t3
  go_wp2_with fail
  have AZ := (((Go.Qm.Arr.set R4 0 (.int .i64 1)).set 1 (str [])).set 2 (.int .i64 0)).set 3 (.slice none 0 0)
  have q0 := Go.Qm.Arr.cell AZ 0
  have q1 := Go.Qm.Arr.cell AZ 1
  have q2 := Go.Qm.Arr.cell AZ 2
  have q3 := Go.Qm.Arr.cell AZ 3
  simp only [List.set_cons_zero, List.set_cons_succ, List.getElem?_cons_zero, List.getElem?_cons_succ] at q0 q1 q2 q3
  have GZ := grown_set (grown_set (grown_set (grown_set (grown_refl w3 (some gR)) 0 (.int .i64 1)) 1 (str [])) 2 (.int .i64 0)) 3 (.slice none 0 0)
  refine bodyPost_ret (v := .agg #[.int .i64 1, str [], .int .i64 0, (.slice none 0 0)]) (by simp [results, Try.results17, go_sem, q0, q1, q2, q3]) rfl ?_
  exact MPlayP.plain h K1 h1 h2 (Keep.refl _) (ans 1) rfl GZ
set_option maxRecDepth 4000 in
set_option maxHeartbeats 4000000 in
theorem mplay6b (d : Int) (l what : Int) (name : List UInt8) (h : MW B fp w gm rows) (hnm : name.length ≤ 1000000) (hd : dirB d = false) :
    Calls Try.prog 17 #[.pointer (some ⟨gm, 0, none⟩), .agg #[.int .i64 6, .int .i64 d, .int .i64 l, str name, .int .i64 what]] w fun e w' => MPlayP B fp w gm (ans 1, rows) e w' := by
  have DO := fun W => dirOK_c d W
  rw [hd] at DO
  have HDO := Hid.mk DO
  clear DO
  have K1 := ((Keep.refl w).alloc (.cells #[.int .i64 6, .int .i64 d, .int .i64 l, str name, .int .i64 what] 32)).alloc (.cells #[.int .i64 0, str [], .int .i64 0, .slice none 0 0] 29)
  have O1 := (Arr.new w 32 [.int .i64 6, .int .i64 d, .int .i64 l, str name, .int .i64 what]).keep ((Keep.refl _).alloc (.cells #[.int .i64 0, str [], .int .i64 0, .slice none 0 0] 29))
  have R1 := Arr.new (w.alloc (.cells #[.int .i64 6, .int .i64 d, .int .i64 l, str name, .int .i64 what] 32)) 29 [.int .i64 0, str [], .int .i64 0, .slice none 0 0]
  rw [show (w.alloc (.cells #[.int .i64 6, .int .i64 d, .int .i64 l, str name, .int .i64 what] 32)).heap.size = w.heap.size + 1 by simp] at R1
  have o0 := Go.Qm.Arr.cell O1 0
  have o1 := Go.Qm.Arr.cell O1 1
  have o2 := Go.Qm.Arr.cell O1 2
  have o3 := Go.Qm.Arr.cell O1 3
  have o4 := Go.Qm.Arr.cell O1 4
  simp only [List.getElem?_cons_zero, List.getElem?_cons_succ] at o0 o1 o2 o3 o4
  have h1 : w.heap.size ≤ w.heap.size + 1 := Nat.le_succ _
  have h2 := R1.lt
  have hO : Hid (w.heap.size ≤ w.heap.size) := Hid.mk (Nat.le_refl _)
  go_enter Try.func17, Try.ntmps17
  go_wp2_with fail
  generalize (w.alloc (.cells #[.int .i64 6, .int .i64 d, .int .i64 l, str name, .int .i64 what] 32)).alloc (.cells #[.int .i64 0, str [], .int .i64 0, .slice none 0 0] 29) = w1 at *
  generalize w.heap.size + 1 = gR at *
  refine (HDO.out _).mono ?_
  rintro e w3 ⟨rfl, rfl⟩
  have R4 := R1
  have t0 := Go.Qm.Arr.cell R4 0
  have t1 := Go.Qm.Arr.cell R4 1
  have t2 := Go.Qm.Arr.cell R4 2
  have t3 := Go.Qm.Arr.cell R4 3
  have z0 := Go.Qm.Arr.frozen R4 0
  have z1 := Go.Qm.Arr.frozen R4 1
  have z2 := Go.Qm.Arr.frozen R4 2
  have z3 := Go.Qm.Arr.frozen R4 3
  simp only [List.getElem?_cons_zero, List.getElem?_cons_succ] at t0 t1 t2 t3
  go_wp2_with fail
  have AZ := (((Go.Qm.Arr.set R4 0 (.int .i64 1)).set 1 (str [])).set 2 (.int .i64 0)).set 3 (.slice none 0 0)
  have q0 := Go.Qm.Arr.cell AZ 0
  have q1 := Go.Qm.Arr.cell AZ 1
  have q2 := Go.Qm.Arr.cell AZ 2
  have q3 := Go.Qm.Arr.cell AZ 3
  simp only [List.set_cons_zero, List.set_cons_succ, List.getElem?_cons_zero, List.getElem?_cons_succ] at q0 q1 q2 q3
  have GZ := grown_set (grown_set (grown_set (grown_set (grown_refl w3 (some gR)) 0 (.int .i64 1)) 1 (str [])) 2 (.int .i64 0)) 3 (.slice none 0 0)
  refine bodyPost_ret (v := .agg #[.int .i64 1, str [], .int .i64 0, (.slice none 0 0)]) (by simp [results, Try.results17, go_sem, q0, q1, q2, q3]) rfl ?_
  exact MPlayP.plain h K1 h1 h2 (Keep.refl _) (ans 1) rfl GZ
set_option maxRecDepth 4000 in
set_option maxHeartbeats 4000000 in
theorem mplay7b (d : Int) (l what : Int) (name : List UInt8) (h : MW B fp w gm rows) (hnm : name.length ≤ 1000000) (hd : dirB d = false) :
    Calls Try.prog 17 #[.pointer (some ⟨gm, 0, none⟩), .agg #[.int .i64 7, .int .i64 d, .int .i64 l, str name, .int .i64 what]] w fun e w' => MPlayP B fp w gm (ans 1, rows) e w' := by
  have DO := fun W => dirOK_c d W
  rw [hd] at DO
  have HDO := Hid.mk DO
  clear DO
  have K1 := ((Keep.refl w).alloc (.cells #[.int .i64 7, .int .i64 d, .int .i64 l, str name, .int .i64 what] 32)).alloc (.cells #[.int .i64 0, str [], .int .i64 0, .slice none 0 0] 29)
  have O1 := (Arr.new w 32 [.int .i64 7, .int .i64 d, .int .i64 l, str name, .int .i64 what]).keep ((Keep.refl _).alloc (.cells #[.int .i64 0, str [], .int .i64 0, .slice none 0 0] 29))
  have R1 := Arr.new (w.alloc (.cells #[.int .i64 7, .int .i64 d, .int .i64 l, str name, .int .i64 what] 32)) 29 [.int .i64 0, str [], .int .i64 0, .slice none 0 0]
  rw [show (w.alloc (.cells #[.int .i64 7, .int .i64 d, .int .i64 l, str name, .int .i64 what] 32)).heap.size = w.heap.size + 1 by simp] at R1
  have o0 := Go.Qm.Arr.cell O1 0
  have o1 := Go.Qm.Arr.cell O1 1
  have o2 := Go.Qm.Arr.cell O1 2
  have o3 := Go.Qm.Arr.cell O1 3
  have o4 := Go.Qm.Arr.cell O1 4
  simp only [List.getElem?_cons_zero, List.getElem?_cons_succ] at o0 o1 o2 o3 o4
  have h1 : w.heap.size ≤ w.heap.size + 1 := Nat.le_succ _
  have h2 := R1.lt
  have hO : Hid (w.heap.size ≤ w.heap.size) := Hid.mk (Nat.le_refl _)
  go_enter Try.func17, Try.ntmps17
  go_wp2_with fail
  generalize (w.alloc (.cells #[.int .i64 7, .int .i64 d, .int .i64 l, str name, .int .i64 what] 32)).alloc (.cells #[.int .i64 0, str [], .int .i64 0, .slice none 0 0] 29) = w1 at *
  generalize w.heap.size + 1 = gR at *
  refine (HDO.out _).mono ?_
  rintro e w3 ⟨rfl, rfl⟩
  have R4 := R1
  have t0 := Go.Qm.Arr.cell R4 0
  have t1 := Go.Qm.Arr.cell R4 1
  have t2 := Go.Qm.Arr.cell R4 2
  have t3 := Go.Qm.Arr.cell R4 3
  have z0 := Go.Qm.Arr.frozen R4 0
  have z1 := Go.Qm.Arr.frozen R4 1
  have z2 := Go.Qm.Arr.frozen R4 2
  have z3 := Go.Qm.Arr.frozen R4 3
  simp only [List.getElem?_cons_zero, List.getElem?_cons_succ] at t0 t1 t2 t3
  go_wp2_with fail
  have AZ := (((Go.Qm.Arr.set R4 0 (.int .i64 1)).set 1 (str [])).set 2 (.int .i64 0)).set 3 (.slice none 0 0)
  have q0 := Go.Qm.Arr.cell AZ 0
  have q1 := Go.Qm.Arr.cell AZ 1
  have q2 := Go.Qm.Arr.cell AZ 2
  have q3 := Go.Qm.Arr.cell AZ 3
  simp only [List.set_cons_zero, List.set_cons_succ, List.getElem?_cons_zero, List.getElem?_cons_succ] at q0 q1 q2 q3
  have GZ := grown_set (grown_set (grown_set (grown_set (grown_refl w3 (some gR)) 0 (.int .i64 1)) 1 (str [])) 2 (.int .i64 0)) 3 (.slice none 0 0)
  refine bodyPost_ret (v := .agg #[.int .i64 1, str [], .int .i64 0, (.slice none 0 0)]) (by simp [results, Try.results17, go_sem, q0, q1, q2, q3]) rfl ?_
  exact MPlayP.plain h K1 h1 h2 (Keep.refl _) (ans 1) rfl GZ
set_option maxRecDepth 4000 in
set_option maxHeartbeats 4000000 in
theorem mplay6 (d : Int) (l what : Int) (name : List UInt8) (h : MW B fp w gm rows) (hnm : name.length ≤ 1000000) (hd : dirB d = true) :
    Calls Try.prog 17 #[.pointer (some ⟨gm, 0, none⟩), .agg #[.int .i64 6, .int .i64 d, .int .i64 l, str name, .int .i64 what]] w fun e w' => MPlayP B fp w gm (ans 0, rows) e w' := by
  have DO := fun W => dirOK_c d W
  rw [hd] at DO
  have HDO := Hid.mk DO
  clear DO
  have K1 := ((Keep.refl w).alloc (.cells #[.int .i64 6, .int .i64 d, .int .i64 l, str name, .int .i64 what] 32)).alloc (.cells #[.int .i64 0, str [], .int .i64 0, .slice none 0 0] 29)
  have O1 := (Arr.new w 32 [.int .i64 6, .int .i64 d, .int .i64 l, str name, .int .i64 what]).keep ((Keep.refl _).alloc (.cells #[.int .i64 0, str [], .int .i64 0, .slice none 0 0] 29))
  have R1 := Arr.new (w.alloc (.cells #[.int .i64 6, .int .i64 d, .int .i64 l, str name, .int .i64 what] 32)) 29 [.int .i64 0, str [], .int .i64 0, .slice none 0 0]
  rw [show (w.alloc (.cells #[.int .i64 6, .int .i64 d, .int .i64 l, str name, .int .i64 what] 32)).heap.size = w.heap.size + 1 by simp] at R1
  have o0 := Go.Qm.Arr.cell O1 0
  have o1 := Go.Qm.Arr.cell O1 1
  have o2 := Go.Qm.Arr.cell O1 2
  have o3 := Go.Qm.Arr.cell O1 3
  have o4 := Go.Qm.Arr.cell O1 4
  simp only [List.getElem?_cons_zero, List.getElem?_cons_succ] at o0 o1 o2 o3 o4
  have h1 : w.heap.size ≤ w.heap.size + 1 := Nat.le_succ _
  have h2 := R1.lt
  have hO : Hid (w.heap.size ≤ w.heap.size) := Hid.mk (Nat.le_refl _)
  go_enter Try.func17, Try.ntmps17
  go_wp2_with fail
  generalize (w.alloc (.cells #[.int .i64 6, .int .i64 d, .int .i64 l, str name, .int .i64 what] 32)).alloc (.cells #[.int .i64 0, str [], .int .i64 0, .slice none 0 0] 29) = w1 at *
  generalize w.heap.size + 1 = gR at *
  refine (HDO.out _).mono ?_
  rintro e w3 ⟨rfl, rfl⟩
  have R4 := R1
  have t0 := Go.Qm.Arr.cell R4 0
  have t1 := Go.Qm.Arr.cell R4 1
  have t2 := Go.Qm.Arr.cell R4 2
  have t3 := Go.Qm.Arr.cell R4 3
  have z0 := Go.Qm.Arr.frozen R4 0
  have z1 := Go.Qm.Arr.frozen R4 1
  have z2 := Go.Qm.Arr.frozen R4 2
  have z3 := Go.Qm.Arr.frozen R4 3
  simp only [List.getElem?_cons_zero, List.getElem?_cons_succ] at t0 t1 t2 t3
  go_wp2_with fail
  have AZ := (((Go.Qm.Arr.set R4 0 (.int .i64 0)).set 1 (str [])).set 2 (.int .i64 0)).set 3 (.slice none 0 0)
  have q0 := Go.Qm.Arr.cell AZ 0
  have q1 := Go.Qm.Arr.cell AZ 1
  have q2 := Go.Qm.Arr.cell AZ 2
  have q3 := Go.Qm.Arr.cell AZ 3
  simp only [List.set_cons_zero, List.set_cons_succ, List.getElem?_cons_zero, List.getElem?_cons_succ] at q0 q1 q2 q3
  have GZ := grown_set (grown_set (grown_set (grown_set (grown_refl w3 (some gR)) 0 (.int .i64 0)) 1 (str [])) 2 (.int .i64 0)) 3 (.slice none 0 0)
  refine bodyPost_ret (v := .agg #[.int .i64 0, str [], .int .i64 0, (.slice none 0 0)]) (by simp [results, Try.results17, go_sem, q0, q1, q2, q3]) rfl ?_
  exact MPlayP.plain h K1 h1 h2 (Keep.refl _) (ans 0) rfl GZ
set_option maxRecDepth 4000 in
set_option maxHeartbeats 4000000 in
theorem mplay7 (d : Int) (l what : Int) (name : List UInt8) (h : MW B fp w gm rows) (hnm : name.length ≤ 1000000) (hd : dirB d = true) :
    Calls Try.prog 17 #[.pointer (some ⟨gm, 0, none⟩), .agg #[.int .i64 7, .int .i64 d, .int .i64 l, str name, .int .i64 what]] w fun e w' => MPlayP B fp w gm (ans 0, rows) e w' := by
  have DO := fun W => dirOK_c d W
  rw [hd] at DO
  have HDO := Hid.mk DO
  clear DO
  have K1 := ((Keep.refl w).alloc (.cells #[.int .i64 7, .int .i64 d, .int .i64 l, str name, .int .i64 what] 32)).alloc (.cells #[.int .i64 0, str [], .int .i64 0, .slice none 0 0] 29)
  have O1 := (Arr.new w 32 [.int .i64 7, .int .i64 d, .int .i64 l, str name, .int .i64 what]).keep ((Keep.refl _).alloc (.cells #[.int .i64 0, str [], .int .i64 0, .slice none 0 0] 29))
  have R1 := Arr.new (w.alloc (.cells #[.int .i64 7, .int .i64 d, .int .i64 l, str name, .int .i64 what] 32)) 29 [.int .i64 0, str [], .int .i64 0, .slice none 0 0]
  rw [show (w.alloc (.cells #[.int .i64 7, .int .i64 d, .int .i64 l, str name, .int .i64 what] 32)).heap.size = w.heap.size + 1 by simp] at R1
  have o0 := Go.Qm.Arr.cell O1 0
  have o1 := Go.Qm.Arr.cell O1 1
  have o2 := Go.Qm.Arr.cell O1 2
  have o3 := Go.Qm.Arr.cell O1 3
  have o4 := Go.Qm.Arr.cell O1 4
  simp only [List.getElem?_cons_zero, List.getElem?_cons_succ] at o0 o1 o2 o3 o4
  have h1 : w.heap.size ≤ w.heap.size + 1 := Nat.le_succ _
  have h2 := R1.lt
  have hO : Hid (w.heap.size ≤ w.heap.size) := Hid.mk (Nat.le_refl _)
  go_enter Try.func17, Try.ntmps17
  go_wp2_with fail
  generalize (w.alloc (.cells #[.int .i64 7, .int .i64 d, .int .i64 l, str name, .int .i64 what] 32)).alloc (.cells #[.int .i64 0, str [], .int .i64 0, .slice none 0 0] 29) = w1 at *
  generalize w.heap.size + 1 = gR at *
  refine (HDO.out _).mono ?_
  rintro e w3 ⟨rfl, rfl⟩
  have R4 := R1
  have t0 := Go.Qm.Arr.cell R4 0
  have t1 := Go.Qm.Arr.cell R4 1
  have t2 := Go.Qm.Arr.cell R4 2
  have t3 := Go.Qm.Arr.cell R4 3
  have z0 := Go.Qm.Arr.frozen R4 0
  have z1 := Go.Qm.Arr.frozen R4 1
  have z2 := Go.Qm.Arr.frozen R4 2
  have z3 := Go.Qm.Arr.frozen R4 3
  simp only [List.getElem?_cons_zero, List.getElem?_cons_succ] at t0 t1 t2 t3
  go_wp2_with fail
  have AZ := (((Go.Qm.Arr.set R4 0 (.int .i64 0)).set 1 (str [])).set 2 (.int .i64 0)).set 3 (.slice none 0 0)
  have q0 := Go.Qm.Arr.cell AZ 0
  have q1 := Go.Qm.Arr.cell AZ 1
  have q2 := Go.Qm.Arr.cell AZ 2
  have q3 := Go.Qm.Arr.cell AZ 3
  simp only [List.set_cons_zero, List.set_cons_succ, List.getElem?_cons_zero, List.getElem?_cons_succ] at q0 q1 q2 q3
  have GZ := grown_set (grown_set (grown_set (grown_set (grown_refl w3 (some gR)) 0 (.int .i64 0)) 1 (str [])) 2 (.int .i64 0)) 3 (.slice none 0 0)
  refine bodyPost_ret (v := .agg #[.int .i64 0, str [], .int .i64 0, (.slice none 0 0)]) (by simp [results, Try.results17, go_sem, q0, q1, q2, q3]) rfl ?_
  exact MPlayP.plain h K1 h1 h2 (Keep.refl _) (ans 0) rfl GZ
set_option maxRecDepth 4000 in
set_option maxHeartbeats 4000000 in
theorem mplay8 (d : Int) (l what : Int) (name : List UInt8) (h : MW B fp w gm rows) (hnm : name.length ≤ 1000000) :
    Calls Try.prog 17 #[.pointer (some ⟨gm, 0, none⟩), .agg #[.int .i64 8, .int .i64 d, .int .i64 l, str name, .int .i64 what]] w fun e w' => MPlayP B fp w gm (ans 0, rows) e w' := by
  have K1 := ((Keep.refl w).alloc (.cells #[.int .i64 8, .int .i64 d, .int .i64 l, str name, .int .i64 what] 32)).alloc (.cells #[.int .i64 0, str [], .int .i64 0, .slice none 0 0] 29)
  have O1 := (Arr.new w 32 [.int .i64 8, .int .i64 d, .int .i64 l, str name, .int .i64 what]).keep ((Keep.refl _).alloc (.cells #[.int .i64 0, str [], .int .i64 0, .slice none 0 0] 29))
  have R1 := Arr.new (w.alloc (.cells #[.int .i64 8, .int .i64 d, .int .i64 l, str name, .int .i64 what] 32)) 29 [.int .i64 0, str [], .int .i64 0, .slice none 0 0]
  rw [show (w.alloc (.cells #[.int .i64 8, .int .i64 d, .int .i64 l, str name, .int .i64 what] 32)).heap.size = w.heap.size + 1 by simp] at R1
  have o0 := Go.Qm.Arr.cell O1 0
  have o1 := Go.Qm.Arr.cell O1 1
  have o2 := Go.Qm.Arr.cell O1 2
  have o3 := Go.Qm.Arr.cell O1 3
  have o4 := Go.Qm.Arr.cell O1 4
  simp only [List.getElem?_cons_zero, List.getElem?_cons_succ] at o0 o1 o2 o3 o4
  have h1 : w.heap.size ≤ w.heap.size + 1 := Nat.le_succ _
  have h2 := R1.lt
  have hO : Hid (w.heap.size ≤ w.heap.size) := Hid.mk (Nat.le_refl _)
  go_enter Try.func17, Try.ntmps17
  go_upto_region 42 with fail
  generalize (w.alloc (.cells #[.int .i64 8, .int .i64 d, .int .i64 l, str name, .int .i64 what] 32)).alloc (.cells #[.int .i64 0, str [], .int .i64 0, .slice none 0 0] 29) = w1 at *
  generalize w.heap.size + 1 = gR at *
  have R4 := R1
  have t0 := Go.Qm.Arr.cell R4 0
  have t1 := Go.Qm.Arr.cell R4 1
  have t2 := Go.Qm.Arr.cell R4 2
  have t3 := Go.Qm.Arr.cell R4 3
  have z0 := Go.Qm.Arr.frozen R4 0
  have z1 := Go.Qm.Arr.frozen R4 1
  have z2 := Go.Qm.Arr.frozen R4 2
  have z3 := Go.Qm.Arr.frozen R4 3
  simp only [List.getElem?_cons_zero, List.getElem?_cons_succ] at t0 t1 t2 t3
  go_wp2_with fail
  have AZ := (((Go.Qm.Arr.set R4 0 (.int .i64 0)).set 1 (str [])).set 2 (.int .i64 0)).set 3 (.slice none 0 0)
  have q0 := Go.Qm.Arr.cell AZ 0
  have q1 := Go.Qm.Arr.cell AZ 1
  have q2 := Go.Qm.Arr.cell AZ 2
  have q3 := Go.Qm.Arr.cell AZ 3
  simp only [List.set_cons_zero, List.set_cons_succ, List.getElem?_cons_zero, List.getElem?_cons_succ] at q0 q1 q2 q3
  have GZ := grown_set (grown_set (grown_set (grown_set (grown_refl w1 (some gR)) 0 (.int .i64 0)) 1 (str [])) 2 (.int .i64 0)) 3 (.slice none 0 0)
  refine bodyPost_ret (v := .agg #[.int .i64 0, str [], .int .i64 0, (.slice none 0 0)]) (by simp [results, Try.results17, go_sem, q0, q1, q2, q3]) rfl ?_
  exact MPlayP.plain h K1 h1 h2 (Keep.refl _) (ans 0) rfl GZ
set_option maxRecDepth 4000 in
set_option maxHeartbeats 4000000 in
theorem mplay9 (kd d l what : Int) (name : List UInt8) (h : MW B fp w gm rows) (hnm : name.length ≤ 1000000) (hx : ∀ i : Int, 1 ≤ i → i ≤ 8 → kd ≠ i) :
    Calls Try.prog 17 #[.pointer (some ⟨gm, 0, none⟩), .agg #[.int .i64 kd, .int .i64 d, .int .i64 l, str name, .int .i64 what]] w fun e w' => MPlayP B fp w gm (ans 1, rows) e w' := by
  have e1 : (kd == 1) = false := by simpa using hx 1 (by omega) (by omega)
  have e2 : (kd == 2) = false := by simpa using hx 2 (by omega) (by omega)
  have e3 : (kd == 3) = false := by simpa using hx 3 (by omega) (by omega)
  have e4 : (kd == 4) = false := by simpa using hx 4 (by omega) (by omega)
  have e5 : (kd == 5) = false := by simpa using hx 5 (by omega) (by omega)
  have e6 : (kd == 6) = false := by simpa using hx 6 (by omega) (by omega)
  have e7 : (kd == 7) = false := by simpa using hx 7 (by omega) (by omega)
  have e8 : (kd == 8) = false := by simpa using hx 8 (by omega) (by omega)
  clear hx
  have K1 := ((Keep.refl w).alloc (.cells #[.int .i64 kd, .int .i64 d, .int .i64 l, str name, .int .i64 what] 32)).alloc (.cells #[.int .i64 0, str [], .int .i64 0, .slice none 0 0] 29)
  have O1 := (Arr.new w 32 [.int .i64 kd, .int .i64 d, .int .i64 l, str name, .int .i64 what]).keep ((Keep.refl _).alloc (.cells #[.int .i64 0, str [], .int .i64 0, .slice none 0 0] 29))
  have R1 := Arr.new (w.alloc (.cells #[.int .i64 kd, .int .i64 d, .int .i64 l, str name, .int .i64 what] 32)) 29 [.int .i64 0, str [], .int .i64 0, .slice none 0 0]
  rw [show (w.alloc (.cells #[.int .i64 kd, .int .i64 d, .int .i64 l, str name, .int .i64 what] 32)).heap.size = w.heap.size + 1 by simp] at R1
  have o0 := Go.Qm.Arr.cell O1 0
  have o1 := Go.Qm.Arr.cell O1 1
  have o2 := Go.Qm.Arr.cell O1 2
  have o3 := Go.Qm.Arr.cell O1 3
  have o4 := Go.Qm.Arr.cell O1 4
  simp only [List.getElem?_cons_zero, List.getElem?_cons_succ] at o0 o1 o2 o3 o4
  have h1 : w.heap.size ≤ w.heap.size + 1 := Nat.le_succ _
  have h2 := R1.lt
  have hO : Hid (w.heap.size ≤ w.heap.size) := Hid.mk (Nat.le_refl _)
  go_enter Try.func17, Try.ntmps17
  go_upto_region 43 with fail
  generalize (w.alloc (.cells #[.int .i64 kd, .int .i64 d, .int .i64 l, str name, .int .i64 what] 32)).alloc (.cells #[.int .i64 0, str [], .int .i64 0, .slice none 0 0] 29) = w1 at *
  generalize w.heap.size + 1 = gR at *
  have R4 := R1
  have t0 := Go.Qm.Arr.cell R4 0
  have t1 := Go.Qm.Arr.cell R4 1
  have t2 := Go.Qm.Arr.cell R4 2
  have t3 := Go.Qm.Arr.cell R4 3
  have z0 := Go.Qm.Arr.frozen R4 0
  have z1 := Go.Qm.Arr.frozen R4 1
  have z2 := Go.Qm.Arr.frozen R4 2
  have z3 := Go.Qm.Arr.frozen R4 3
  simp only [List.getElem?_cons_zero, List.getElem?_cons_succ] at t0 t1 t2 t3
  go_wp2_with fail
  have AZ := (((Go.Qm.Arr.set R4 0 (.int .i64 1)).set 1 (str [])).set 2 (.int .i64 0)).set 3 (.slice none 0 0)
  have q0 := Go.Qm.Arr.cell AZ 0
  have q1 := Go.Qm.Arr.cell AZ 1
  have q2 := Go.Qm.Arr.cell AZ 2
  have q3 := Go.Qm.Arr.cell AZ 3
  simp only [List.set_cons_zero, List.set_cons_succ, List.getElem?_cons_zero, List.getElem?_cons_succ] at q0 q1 q2 q3
  have GZ := grown_set (grown_set (grown_set (grown_set (grown_refl w1 (some gR)) 0 (.int .i64 1)) 1 (str [])) 2 (.int .i64 0)) 3 (.slice none 0 0)
  refine bodyPost_ret (v := .agg #[.int .i64 1, str [], .int .i64 0, (.slice none 0 0)]) (by simp [results, Try.results17, go_sem, q0, q1, q2, q3]) rfl ?_
  exact MPlayP.plain h K1 h1 h2 (Keep.refl _) (ans 1) rfl GZ
set_option maxRecDepth 4000 in
set_option maxHeartbeats 4000000 in
theorem mplay5 (d : Int) (l what : Int) (name : List UInt8) (h : MW B fp w gm rows) (hnm : name.length ≤ 1000000) (hlen : rows.length ≤ 65536) (hrn : ∀ r ∈ rows, r.raw.length ≤ 65536) (hd : dirB d = true) (D : Dir) (hnx : ∀ a, mnextF d a rows = nextK D a) (hc96 : cntK D ≤ 96) :
    Calls Try.prog 17 #[.pointer (some ⟨gm, 0, none⟩), .agg #[.int .i64 5, .int .i64 d, .int .i64 l, str name, .int .i64 what]] w fun e w' => MPlayP B fp w gm (⟨0, [], cntK D, []⟩, rows) e w' := by
  have DO := fun W => dirOK_c d W
  rw [hd] at DO
  have CC := fun a (ha : a.length ≤ 4000) W (q : Keep w W) => mnext_c d a (h.keep q) hlen hrn (by omega)
  have HU0 := Hid.mk (upTo_nil D)
  have HUN := Hid.mk (fun a m => @upTo_next D a m)
  have HUE := Hid.mk (fun a => @upTo_end D a)
  have HME := Hid.mk (fun a m => @next_mem D a m)
  have HKL := Hid.mk (fun k => @keys_len D k)
  have HUL : Hid (∀ a, upTo D a ≤ cntK D) := Hid.mk (fun a => by unfold upTo cntK; exact List.length_filter_le _ _)
  simp only [hnx] at CC
  generalize hcn : cntK D = c at *
  have HCC2 := Hid.mk hcn
  clear hcn hnx
  have HDO := Hid.mk DO
  clear DO
  have HCC := Hid.mk CC
  clear CC
  have K1 := ((Keep.refl w).alloc (.cells #[.int .i64 5, .int .i64 d, .int .i64 l, str name, .int .i64 what] 32)).alloc (.cells #[.int .i64 0, str [], .int .i64 0, .slice none 0 0] 29)
  have O1 := (Arr.new w 32 [.int .i64 5, .int .i64 d, .int .i64 l, str name, .int .i64 what]).keep ((Keep.refl _).alloc (.cells #[.int .i64 0, str [], .int .i64 0, .slice none 0 0] 29))
  have R1 := Arr.new (w.alloc (.cells #[.int .i64 5, .int .i64 d, .int .i64 l, str name, .int .i64 what] 32)) 29 [.int .i64 0, str [], .int .i64 0, .slice none 0 0]
  rw [show (w.alloc (.cells #[.int .i64 5, .int .i64 d, .int .i64 l, str name, .int .i64 what] 32)).heap.size = w.heap.size + 1 by simp] at R1
  have o0 := Go.Qm.Arr.cell O1 0
  have o1 := Go.Qm.Arr.cell O1 1
  have o2 := Go.Qm.Arr.cell O1 2
  have o3 := Go.Qm.Arr.cell O1 3
  have o4 := Go.Qm.Arr.cell O1 4
  simp only [List.getElem?_cons_zero, List.getElem?_cons_succ] at o0 o1 o2 o3 o4
  have h1 : w.heap.size ≤ w.heap.size + 1 := Nat.le_succ _
  have h2 := R1.lt
  have hO : Hid (w.heap.size ≤ w.heap.size) := Hid.mk (Nat.le_refl _)
  go_enter Try.func17, Try.ntmps17
  go_wp2_with fail
  generalize (w.alloc (.cells #[.int .i64 5, .int .i64 d, .int .i64 l, str name, .int .i64 what] 32)).alloc (.cells #[.int .i64 0, str [], .int .i64 0, .slice none 0 0] 29) = w1 at *
  generalize w.heap.size + 1 = gR at *
  refine (HDO.out _).mono ?_
  rintro e w3 ⟨rfl, rfl⟩
  go_wp2_with fail
  refine (HCC.out [] (by simp) _ K1).mono ?_
  rintro e w4 ⟨rfl, k4⟩
  go_wp2_with fail
  go_loopg [13, 14, 15] c (fun gk nv kv fv wr => ∃ (s : Nat) (a : List UInt8) (o : Option (List UInt8)), s + gk = c ∧ nv = .int .i64 s ∧ o = nextK D a ∧ upTo D a = s ∧ kv = str (accK o) ∧ fv = .bool o.isSome ∧ Keep w3 wr)
  case atStart => exact ⟨0, [], _, by omega, rfl, rfl, HU0.out, rfl, rfl, k4⟩
  case round =>
    obtain ⟨s, a, o, hs, rfl, ho, hup, rfl, rfl, kw⟩ := hrel
    have HS := Hid.mk hs
    have HO := Hid.mk ho
    have HUP := Hid.mk hup
    clear hs ho hup
    cases o with
    | none =>
      have HSC : Hid ((s : Int) = c) := Hid.mk (by have := HUE.out a HO.out.symm; rw [HUP.out] at this; omega)
      have R4 := R1.keep kw
      have t0 := Go.Qm.Arr.cell R4 0
      have t1 := Go.Qm.Arr.cell R4 1
      have t2 := Go.Qm.Arr.cell R4 2
      have t3 := Go.Qm.Arr.cell R4 3
      have z0 := Go.Qm.Arr.frozen R4 0
      have z1 := Go.Qm.Arr.frozen R4 1
      have z2 := Go.Qm.Arr.frozen R4 2
      have z3 := Go.Qm.Arr.frozen R4 3
      simp only [List.getElem?_cons_zero, List.getElem?_cons_succ] at t0 t1 t2 t3
      go_wp2_with fail
      have AZ := (((Go.Qm.Arr.set R4 0 (.int .i64 0)).set 1 (str [])).set 2 (.int .i64 (s : Int))).set 3 (.slice none 0 0)
      have q0 := Go.Qm.Arr.cell AZ 0
      have q1 := Go.Qm.Arr.cell AZ 1
      have q2 := Go.Qm.Arr.cell AZ 2
      have q3 := Go.Qm.Arr.cell AZ 3
      simp only [List.set_cons_zero, List.set_cons_succ, List.getElem?_cons_zero, List.getElem?_cons_succ] at q0 q1 q2 q3
      have GZ := grown_set (grown_set (grown_set (grown_set (grown_refl wr (some gR)) 0 (.int .i64 0)) 1 (str [])) 2 (.int .i64 (s : Int))) 3 (.slice none 0 0)
      refine bodyPost_ret (v := .agg #[.int .i64 0, str [], .int .i64 (s : Int), (.slice none 0 0)]) (by simp [results, Try.results17, go_sem, q0, q1, q2, q3]) rfl ?_
      have FN := MPlayP.plain h K1 h1 h2 kw ⟨0, [], s, []⟩ rfl GZ
      simp only [HSC.out] at FN ⊢
      exact FN
    | some m =>
      obtain ⟨hmk, hlm⟩ := HME.out a m HO.out.symm
      have hml := HKL.out m hmk
      have hun := HUN.out a m HO.out.symm
      have hs1 : s + 1 ≤ c := by have := HUL.out m; rw [hun, HUP.out] at this; exact this
      have HUN2 : Hid (upTo D m = s + 1) := Hid.mk (by rw [hun, HUP.out])
      have CN := HCC.out m hml wr (K1.trans kw)
      have o1' := kw.cell o1
      unfold accK
      simp only [Option.getD_some, Option.isSome_some]
      clear hun hmk hlm
      go_wp2_with fail
      refine CN.mono ?_
      rintro e w5 ⟨rfl, k5⟩
      go_wp2_with fail
      go_roundg (gk - 1)
      case measure => have := HS.out; omega
      case rel => exact ⟨s + 1, m, _, by have := HS.out; omega, by go_num, rfl, HUN2.out, rfl, rfl, kw.trans k5⟩
end
end Go.Proofs.Qxb6500766a
