/- foldindexm: Play. -/
import Derived.Test.Qxb6500766aMf
import Derived.Test.Qxb6500766aMc
namespace Go.Proofs.Qxb6500766a
open Go Go.RowKit Go.Qm
set_option linter.unusedVariables false
set_option linter.unusedSimpArgs false
attribute [local go_sem ↓] Go.wp_at_zero Go.wp_at_succ
def MPlayP (B : Nat) (fp : Nat → Prop) (w : World) (gm : Nat) (p : AnsV × List Row) (e : Ending) (w' : World) : Prop :=
  ∃ v fp', e = .returned (.agg #[.int .i64 p.1.er, str p.1.key, .int .i64 p.1.n, v]) ∧ EntO w.heap.size w' v p.1.es ∧ MW B fp' w' gm p.2 ∧ Stp fp fp' w w'
theorem MPlayP.fin {B : Nat} {fp fp' : Nat → Prop} {w w1 w2 w3 : World} {gm r : Nat} {rows rows' : List Row} (W0 : MW B fp w gm rows) (k1 : Keep w w1) (h1 : w.heap.size ≤ r) (h2 : r < w1.heap.size) (st : Stp fp fp' w1 w2) (W2 : MW B fp' w2 gm rows') {v : Value} {a : AnsV} (ev : EntO w1.heap.size w2 v a.es) (gr : w2.grownBy w3 (some r)) :
    MPlayP B fp w gm (a, rows') (.returned (.agg #[.int .i64 a.er, str a.key, .int .i64 a.n, v])) w3 := by
  have hr : ¬ fp' r := fun a => by
    rcases st.2 r a with b | b
    · have := (W0.lo b).2; omega
    · omega
  refine ⟨v, fp', rfl, ?_, W2.fr (grown_fr gr) (fun q hq a => hr (by rw [← a]; exact hq)), ?_⟩
  · exact (ev.fr (grown_fr gr) (fun q hq a => by have := (ev.lt q hq).1; omega)).mono (k1.size)
  · have S := (Stp.keep k1 (fp := fp)).trans st
    refine ⟨⟨gr.os.trans S.1.os, gr.tape.trans S.1.tape, gr.output.trans S.1.output, Nat.le_trans S.1.size gr.size, fun k hk hp => ?_⟩, S.2⟩
    rw [gr.block k (Nat.lt_of_lt_of_le hk S.1.size) (by simp; omega)]
    exact S.1.block k hk hp
theorem MPlayP.plain {B : Nat} {fp : Nat → Prop} {w w1 w2 w3 : World} {gm r : Nat} {rows : List Row} (W0 : MW B fp w gm rows) (k1 : Keep w w1) (h1 : w.heap.size ≤ r) (h2 : r < w1.heap.size) (k2 : Keep w1 w2) (a : AnsV) (ha : a.es = []) (gr : w2.grownBy w3 (some r)) :
    MPlayP B fp w gm (a, rows) (.returned (.agg #[.int .i64 a.er, str a.key, .int .i64 a.n, .slice none 0 0])) w3 :=
  MPlayP.fin W0 k1 h1 h2 (Stp.keep k2) (W0.keep (k1.trans k2)) (by rw [ha]; exact OwnS.nil _ _ _ _ _) gr
theorem _root_.Go.Qm.Arr.mstp {B : Nat} {fp fp' : Nat → Prop} {w w1 w2 : World} {gm r : Nat} {rows : List Row} {t : TypeId} {cs : List Value} (A : Arr w1 r t cs) (W0 : MW B fp w gm rows) (h1 : w.heap.size ≤ r) (st : Stp fp fp' w1 w2) : Arr w2 r t cs := st.1.arr (fun a => by have := (W0.lo a).2; omega) A
section
variable {B : Nat} {fp : Nat → Prop} {w : World} {gm : Nat} {rows : List Row}
set_option maxRecDepth 4000 in
set_option maxHeartbeats 4000000 in
theorem mplay1 (d : Int) (l what : Int) (name : List UInt8) (h : MW B fp w gm rows) (hnm : name.length ≤ 1000000) (hlen : rows.length ≤ 65536) :
    Calls Try.prog 17 #[.pointer (some ⟨gm, 0, none⟩), .agg #[.int .i64 1, .int .i64 d, .int .i64 l, str name, .int .i64 what]] w fun e w' => MPlayP B fp w gm (ans (maddF rows ⟨1, d, l, name, what⟩).1, (maddF rows ⟨1, d, l, name, what⟩).2) e w' := by
  have CC := fun W (q : Keep w W) => madd_c ⟨1, d, l, name, what⟩ (h.keep q) hlen
  generalize maddF rows ⟨1, d, l, name, what⟩ = P at *
  obtain ⟨pe, pr⟩ := P
  simp only at CC ⊢
  have HCC := Hid.mk CC
  clear CC
  have K1 := ((Keep.refl w).alloc (.cells #[.int .i64 1, .int .i64 d, .int .i64 l, str name, .int .i64 what] 32)).alloc (.cells #[.int .i64 0, str [], .int .i64 0, .slice none 0 0] 29)
  have O1 := (Arr.new w 32 [.int .i64 1, .int .i64 d, .int .i64 l, str name, .int .i64 what]).keep ((Keep.refl _).alloc (.cells #[.int .i64 0, str [], .int .i64 0, .slice none 0 0] 29))
  have R1 := Arr.new (w.alloc (.cells #[.int .i64 1, .int .i64 d, .int .i64 l, str name, .int .i64 what] 32)) 29 [.int .i64 0, str [], .int .i64 0, .slice none 0 0]
  rw [show (w.alloc (.cells #[.int .i64 1, .int .i64 d, .int .i64 l, str name, .int .i64 what] 32)).heap.size = w.heap.size + 1 by simp] at R1
  have o0 := Go.Qm.Arr.cell O1 0
  have o1 := Go.Qm.Arr.cell O1 1
  have o2 := Go.Qm.Arr.cell O1 2
  have o3 := Go.Qm.Arr.cell O1 3
  have o4 := Go.Qm.Arr.cell O1 4
  simp only [List.getElem?_cons_zero, List.getElem?_cons_succ] at o0 o1 o2 o3 o4
  have h1 : w.heap.size ≤ w.heap.size + 1 := Nat.le_succ _
  have h2 := R1.lt
  have hO : Hid (w.heap.size ≤ w.heap.size) := Hid.mk (Nat.le_refl _)
  go_enter Try.func17, Try.ntmps17
  go_wp2_with fail
  generalize (w.alloc (.cells #[.int .i64 1, .int .i64 d, .int .i64 l, str name, .int .i64 what] 32)).alloc (.cells #[.int .i64 0, str [], .int .i64 0, .slice none 0 0] 29) = w1 at *
  generalize w.heap.size + 1 = gR at *
  refine (HCC.out _ K1).mono ?_
  rintro e w2 ⟨fp', rfl, W2, st⟩
  have R4 := R1.mstp h h1 st
  have t0 := Go.Qm.Arr.cell R4 0
  have t1 := Go.Qm.Arr.cell R4 1
  have t2 := Go.Qm.Arr.cell R4 2
  have t3 := Go.Qm.Arr.cell R4 3
  have z0 := Go.Qm.Arr.frozen R4 0
  have z1 := Go.Qm.Arr.frozen R4 1
  have z2 := Go.Qm.Arr.frozen R4 2
  have z3 := Go.Qm.Arr.frozen R4 3
  simp only [List.getElem?_cons_zero, List.getElem?_cons_succ] at t0 t1 t2 t3
  go_wp2_with fail
  have AZ := (((Go.Qm.Arr.set R4 0 (.int .i64 pe)).set 1 (str [])).set 2 (.int .i64 0)).set 3 (.slice none 0 0)
  have q0 := Go.Qm.Arr.cell AZ 0
  have q1 := Go.Qm.Arr.cell AZ 1
  have q2 := Go.Qm.Arr.cell AZ 2
  have q3 := Go.Qm.Arr.cell AZ 3
  simp only [List.set_cons_zero, List.set_cons_succ, List.getElem?_cons_zero, List.getElem?_cons_succ] at q0 q1 q2 q3
  have GZ := grown_set (grown_set (grown_set (grown_set (grown_refl w2 (some gR)) 0 (.int .i64 pe)) 1 (str [])) 2 (.int .i64 0)) 3 (.slice none 0 0)
  refine bodyPost_ret (v := .agg #[.int .i64 pe, str [], .int .i64 0, (.slice none 0 0)]) (by simp [results, Try.results17, go_sem, q0, q1, q2, q3]) rfl ?_
  exact MPlayP.fin (a := ans pe) h K1 h1 h2 st W2 (OwnS.nil _ _ _ _ _) GZ
set_option maxRecDepth 4000 in
set_option maxHeartbeats 4000000 in
theorem mplay2 (d : Int) (l what : Int) (name : List UInt8) (h : MW B fp w gm rows) (hnm : name.length ≤ 1000000) (hlen : rows.length ≤ 65536) :
    Calls Try.prog 17 #[.pointer (some ⟨gm, 0, none⟩), .agg #[.int .i64 2, .int .i64 d, .int .i64 l, str name, .int .i64 what]] w fun e w' => MPlayP B fp w gm (ans (mremF rows ⟨2, d, l, name, what⟩).1, (mremF rows ⟨2, d, l, name, what⟩).2) e w' := by
  have CC := fun W (q : Keep w W) => mrem_c ⟨2, d, l, name, what⟩ (h.keep q) hlen
  generalize mremF rows ⟨2, d, l, name, what⟩ = P at *
  obtain ⟨pe, pr⟩ := P
  simp only at CC ⊢
  have HCC := Hid.mk CC
  clear CC
  have K1 := ((Keep.refl w).alloc (.cells #[.int .i64 2, .int .i64 d, .int .i64 l, str name, .int .i64 what] 32)).alloc (.cells #[.int .i64 0, str [], .int .i64 0, .slice none 0 0] 29)
  have O1 := (Arr.new w 32 [.int .i64 2, .int .i64 d, .int .i64 l, str name, .int .i64 what]).keep ((Keep.refl _).alloc (.cells #[.int .i64 0, str [], .int .i64 0, .slice none 0 0] 29))
  have R1 := Arr.new (w.alloc (.cells #[.int .i64 2, .int .i64 d, .int .i64 l, str name, .int .i64 what] 32)) 29 [.int .i64 0, str [], .int .i64 0, .slice none 0 0]
  rw [show (w.alloc (.cells #[.int .i64 2, .int .i64 d, .int .i64 l, str name, .int .i64 what] 32)).heap.size = w.heap.size + 1 by simp] at R1
  have o0 := Go.Qm.Arr.cell O1 0
  have o1 := Go.Qm.Arr.cell O1 1
  have o2 := Go.Qm.Arr.cell O1 2
  have o3 := Go.Qm.Arr.cell O1 3
  have o4 := Go.Qm.Arr.cell O1 4
  simp only [List.getElem?_cons_zero, List.getElem?_cons_succ] at o0 o1 o2 o3 o4
  have h1 : w.heap.size ≤ w.heap.size + 1 := Nat.le_succ _
  have h2 := R1.lt
  have hO : Hid (w.heap.size ≤ w.heap.size) := Hid.mk (Nat.le_refl _)
  go_enter Try.func17, Try.ntmps17
  go_wp2_with fail
  generalize (w.alloc (.cells #[.int .i64 2, .int .i64 d, .int .i64 l, str name, .int .i64 what] 32)).alloc (.cells #[.int .i64 0, str [], .int .i64 0, .slice none 0 0] 29) = w1 at *
  generalize w.heap.size + 1 = gR at *
  refine (HCC.out _ K1).mono ?_
  rintro e w2 ⟨fp', rfl, W2, st⟩
  have R4 := R1.mstp h h1 st
  have t0 := Go.Qm.Arr.cell R4 0
  have t1 := Go.Qm.Arr.cell R4 1
  have t2 := Go.Qm.Arr.cell R4 2
  have t3 := Go.Qm.Arr.cell R4 3
  have z0 := Go.Qm.Arr.frozen R4 0
  have z1 := Go.Qm.Arr.frozen R4 1
  have z2 := Go.Qm.Arr.frozen R4 2
  have z3 := Go.Qm.Arr.frozen R4 3
  simp only [List.getElem?_cons_zero, List.getElem?_cons_succ] at t0 t1 t2 t3
  go_wp2_with fail
  have AZ := (((Go.Qm.Arr.set R4 0 (.int .i64 pe)).set 1 (str [])).set 2 (.int .i64 0)).set 3 (.slice none 0 0)
  have q0 := Go.Qm.Arr.cell AZ 0
  have q1 := Go.Qm.Arr.cell AZ 1
  have q2 := Go.Qm.Arr.cell AZ 2
  have q3 := Go.Qm.Arr.cell AZ 3
  simp only [List.set_cons_zero, List.set_cons_succ, List.getElem?_cons_zero, List.getElem?_cons_succ] at q0 q1 q2 q3
  have GZ := grown_set (grown_set (grown_set (grown_set (grown_refl w2 (some gR)) 0 (.int .i64 pe)) 1 (str [])) 2 (.int .i64 0)) 3 (.slice none 0 0)
  refine bodyPost_ret (v := .agg #[.int .i64 pe, str [], .int .i64 0, (.slice none 0 0)]) (by simp [results, Try.results17, go_sem, q0, q1, q2, q3]) rfl ?_
  exact MPlayP.fin (a := ans pe) h K1 h1 h2 st W2 (OwnS.nil _ _ _ _ _) GZ
set_option maxRecDepth 4000 in
set_option maxHeartbeats 4000000 in
theorem mplay3n (d : Int) (l what : Int) (name : List UInt8) (h : MW B fp w gm rows) (hnm : name.length ≤ 1000000) (hk : keyF name = none) :
    Calls Try.prog 17 #[.pointer (some ⟨gm, 0, none⟩), .agg #[.int .i64 3, .int .i64 d, .int .i64 l, str name, .int .i64 what]] w fun e w' => MPlayP B fp w gm (ans 5, rows) e w' := by
  have KC := fun W => key_c name W hnm
  have HKC := Hid.mk KC
  clear KC
  have HK := Hid.mk hk
  clear hk
  have K1 := ((Keep.refl w).alloc (.cells #[.int .i64 3, .int .i64 d, .int .i64 l, str name, .int .i64 what] 32)).alloc (.cells #[.int .i64 0, str [], .int .i64 0, .slice none 0 0] 29)
  have O1 := (Arr.new w 32 [.int .i64 3, .int .i64 d, .int .i64 l, str name, .int .i64 what]).keep ((Keep.refl _).alloc (.cells #[.int .i64 0, str [], .int .i64 0, .slice none 0 0] 29))
  have R1 := Arr.new (w.alloc (.cells #[.int .i64 3, .int .i64 d, .int .i64 l, str name, .int .i64 what] 32)) 29 [.int .i64 0, str [], .int .i64 0, .slice none 0 0]
  rw [show (w.alloc (.cells #[.int .i64 3, .int .i64 d, .int .i64 l, str name, .int .i64 what] 32)).heap.size = w.heap.size + 1 by simp] at R1
  have o0 := Go.Qm.Arr.cell O1 0
  have o1 := Go.Qm.Arr.cell O1 1
  have o2 := Go.Qm.Arr.cell O1 2
  have o3 := Go.Qm.Arr.cell O1 3
  have o4 := Go.Qm.Arr.cell O1 4
  simp only [List.getElem?_cons_zero, List.getElem?_cons_succ] at o0 o1 o2 o3 o4
  have h1 : w.heap.size ≤ w.heap.size + 1 := Nat.le_succ _
  have h2 := R1.lt
  have hO : Hid (w.heap.size ≤ w.heap.size) := Hid.mk (Nat.le_refl _)
  go_enter Try.func17, Try.ntmps17
  go_wp2_with fail
  generalize (w.alloc (.cells #[.int .i64 3, .int .i64 d, .int .i64 l, str name, .int .i64 what] 32)).alloc (.cells #[.int .i64 0, str [], .int .i64 0, .slice none 0 0] 29) = w1 at *
  generalize w.heap.size + 1 = gR at *
  refine (HKC.out _).mono ?_
  rintro e w2 ⟨hk, k2⟩
  rcases hk with ⟨hK, rfl⟩ | ⟨k', hK, rfl⟩
  · clear hK
    have R4 := R1.keep k2
    have t0 := Go.Qm.Arr.cell R4 0
    have t1 := Go.Qm.Arr.cell R4 1
    have t2 := Go.Qm.Arr.cell R4 2
    have t3 := Go.Qm.Arr.cell R4 3
    have z0 := Go.Qm.Arr.frozen R4 0
    have z1 := Go.Qm.Arr.frozen R4 1
    have z2 := Go.Qm.Arr.frozen R4 2
    have z3 := Go.Qm.Arr.frozen R4 3
    simp only [List.getElem?_cons_zero, List.getElem?_cons_succ] at t0 t1 t2 t3
    go_wp2_with fail
    have AZ := (((Go.Qm.Arr.set R4 0 (.int .i64 5)).set 1 (str [])).set 2 (.int .i64 0)).set 3 (.slice none 0 0)
    have q0 := Go.Qm.Arr.cell AZ 0
    have q1 := Go.Qm.Arr.cell AZ 1
    have q2 := Go.Qm.Arr.cell AZ 2
    have q3 := Go.Qm.Arr.cell AZ 3
    simp only [List.set_cons_zero, List.set_cons_succ, List.getElem?_cons_zero, List.getElem?_cons_succ] at q0 q1 q2 q3
    have GZ := grown_set (grown_set (grown_set (grown_set (grown_refl w2 (some gR)) 0 (.int .i64 5)) 1 (str [])) 2 (.int .i64 0)) 3 (.slice none 0 0)
    refine bodyPost_ret (v := .agg #[.int .i64 5, str [], .int .i64 0, (.slice none 0 0)]) (by simp [results, Try.results17, go_sem, q0, q1, q2, q3]) rfl ?_
    exact MPlayP.plain h K1 h1 h2 k2 (ans 5) rfl GZ
  · rw [HK.out] at hK; cases hK
set_option maxRecDepth 4000 in
set_option maxHeartbeats 4000000 in
theorem mplay4n (d : Int) (l what : Int) (name : List UInt8) (h : MW B fp w gm rows) (hnm : name.length ≤ 1000000) (hne : name ≠ []) (hk : keyF name = none) :
    Calls Try.prog 17 #[.pointer (some ⟨gm, 0, none⟩), .agg #[.int .i64 4, .int .i64 d, .int .i64 l, str name, .int .i64 what]] w fun e w' => MPlayP B fp w gm (ans 5, rows) e w' := by
  have KC := fun W => key_c name W hnm
  have HKC := Hid.mk KC
  clear KC
  have n1 : (name == []) = false := by simpa using hne
  have n2 : (name != []) = true := by simpa using hne
  have HK := Hid.mk hk
  clear hk
  have K1 := ((Keep.refl w).alloc (.cells #[.int .i64 4, .int .i64 d, .int .i64 l, str name, .int .i64 what] 32)).alloc (.cells #[.int .i64 0, str [], .int .i64 0, .slice none 0 0] 29)
  have O1 := (Arr.new w 32 [.int .i64 4, .int .i64 d, .int .i64 l, str name, .int .i64 what]).keep ((Keep.refl _).alloc (.cells #[.int .i64 0, str [], .int .i64 0, .slice none 0 0] 29))
  have R1 := Arr.new (w.alloc (.cells #[.int .i64 4, .int .i64 d, .int .i64 l, str name, .int .i64 what] 32)) 29 [.int .i64 0, str [], .int .i64 0, .slice none 0 0]
  rw [show (w.alloc (.cells #[.int .i64 4, .int .i64 d, .int .i64 l, str name, .int .i64 what] 32)).heap.size = w.heap.size + 1 by simp] at R1
  have o0 := Go.Qm.Arr.cell O1 0
  have o1 := Go.Qm.Arr.cell O1 1
  have o2 := Go.Qm.Arr.cell O1 2
  have o3 := Go.Qm.Arr.cell O1 3
  have o4 := Go.Qm.Arr.cell O1 4
  simp only [List.getElem?_cons_zero, List.getElem?_cons_succ] at o0 o1 o2 o3 o4
  have h1 : w.heap.size ≤ w.heap.size + 1 := Nat.le_succ _
  have h2 := R1.lt
  have hO : Hid (w.heap.size ≤ w.heap.size) := Hid.mk (Nat.le_refl _)
  go_enter Try.func17, Try.ntmps17
  go_wp2_with fail
  generalize (w.alloc (.cells #[.int .i64 4, .int .i64 d, .int .i64 l, str name, .int .i64 what] 32)).alloc (.cells #[.int .i64 0, str [], .int .i64 0, .slice none 0 0] 29) = w1 at *
  generalize w.heap.size + 1 = gR at *
  refine (HKC.out _).mono ?_
  rintro e w2 ⟨hk, k2⟩
  rcases hk with ⟨hK, rfl⟩ | ⟨k', hK, rfl⟩
  · clear hK
    have R4 := R1.keep k2
    have t0 := Go.Qm.Arr.cell R4 0
    have t1 := Go.Qm.Arr.cell R4 1
    have t2 := Go.Qm.Arr.cell R4 2
    have t3 := Go.Qm.Arr.cell R4 3
    have z0 := Go.Qm.Arr.frozen R4 0
    have z1 := Go.Qm.Arr.frozen R4 1
    have z2 := Go.Qm.Arr.frozen R4 2
    have z3 := Go.Qm.Arr.frozen R4 3
    simp only [List.getElem?_cons_zero, List.getElem?_cons_succ] at t0 t1 t2 t3
    go_wp2_with fail
    have AZ := (((Go.Qm.Arr.set R4 0 (.int .i64 5)).set 1 (str [])).set 2 (.int .i64 0)).set 3 (.slice none 0 0)
    have q0 := Go.Qm.Arr.cell AZ 0
    have q1 := Go.Qm.Arr.cell AZ 1
    have q2 := Go.Qm.Arr.cell AZ 2
    have q3 := Go.Qm.Arr.cell AZ 3
    simp only [List.set_cons_zero, List.set_cons_succ, List.getElem?_cons_zero, List.getElem?_cons_succ] at q0 q1 q2 q3
    have GZ := grown_set (grown_set (grown_set (grown_set (grown_refl w2 (some gR)) 0 (.int .i64 5)) 1 (str [])) 2 (.int .i64 0)) 3 (.slice none 0 0)
    refine bodyPost_ret (v := .agg #[.int .i64 5, str [], .int .i64 0, (.slice none 0 0)]) (by simp [results, Try.results17, go_sem, q0, q1, q2, q3]) rfl ?_
    exact MPlayP.plain h K1 h1 h2 k2 (ans 5) rfl GZ
  · rw [HK.out] at hK; cases hK
set_option maxRecDepth 4000 in
set_option maxHeartbeats 4000000 in
theorem mplay3b (d : Int) (l what : Int) (name : List UInt8) (h : MW B fp w gm rows) (hnm : name.length ≤ 1000000) (hd : dirB d = false) (k : List UInt8) (hk : keyF name = some k) :
    Calls Try.prog 17 #[.pointer (some ⟨gm, 0, none⟩), .agg #[.int .i64 3, .int .i64 d, .int .i64 l, str name, .int .i64 what]] w fun e w' => MPlayP B fp w gm (ans 1, rows) e w' := by
  have KC := fun W => key_c name W hnm
  have HKC := Hid.mk KC
  clear KC
  have HK := Hid.mk hk
  clear hk
  have DO := fun W => dirOK_c d W
  rw [hd] at DO
  have HDO := Hid.mk DO
  clear DO
  have K1 := ((Keep.refl w).alloc (.cells #[.int .i64 3, .int .i64 d, .int .i64 l, str name, .int .i64 what] 32)).alloc (.cells #[.int .i64 0, str [], .int .i64 0, .slice none 0 0] 29)
  have O1 := (Arr.new w 32 [.int .i64 3, .int .i64 d, .int .i64 l, str name, .int .i64 what]).keep ((Keep.refl _).alloc (.cells #[.int .i64 0, str [], .int .i64 0, .slice none 0 0] 29))
  have R1 := Arr.new (w.alloc (.cells #[.int .i64 3, .int .i64 d, .int .i64 l, str name, .int .i64 what] 32)) 29 [.int .i64 0, str [], .int .i64 0, .slice none 0 0]
  rw [show (w.alloc (.cells #[.int .i64 3, .int .i64 d, .int .i64 l, str name, .int .i64 what] 32)).heap.size = w.heap.size + 1 by simp] at R1
  have o0 := Go.Qm.Arr.cell O1 0
  have o1 := Go.Qm.Arr.cell O1 1
  have o2 := Go.Qm.Arr.cell O1 2
  have o3 := Go.Qm.Arr.cell O1 3
  have o4 := Go.Qm.Arr.cell O1 4
  simp only [List.getElem?_cons_zero, List.getElem?_cons_succ] at o0 o1 o2 o3 o4
  have h1 : w.heap.size ≤ w.heap.size + 1 := Nat.le_succ _
  have h2 := R1.lt
  have hO : Hid (w.heap.size ≤ w.heap.size) := Hid.mk (Nat.le_refl _)
  go_enter Try.func17, Try.ntmps17
  go_wp2_with fail
  generalize (w.alloc (.cells #[.int .i64 3, .int .i64 d, .int .i64 l, str name, .int .i64 what] 32)).alloc (.cells #[.int .i64 0, str [], .int .i64 0, .slice none 0 0] 29) = w1 at *
  generalize w.heap.size + 1 = gR at *
  refine (HKC.out _).mono ?_
  rintro e w2 ⟨hk, k2⟩
  rcases hk with ⟨hK, rfl⟩ | ⟨k', hK, rfl⟩
  · rw [HK.out] at hK; cases hK
  · clear hK
    have K2 := K1.trans k2
    have o1 := k2.cell o1
    have R2 := R1.keep k2
    have h2 : gR < w2.heap.size := Nat.lt_of_lt_of_le h2 k2.size
    go_wp2_with fail
    refine (HDO.out _).mono ?_
    rintro e w3 ⟨rfl, rfl⟩
    have R4 := R2
    have t0 := Go.Qm.Arr.cell R4 0
    have t1 := Go.Qm.Arr.cell R4 1
    have t2 := Go.Qm.Arr.cell R4 2
    have t3 := Go.Qm.Arr.cell R4 3
    have z0 := Go.Qm.Arr.frozen R4 0
    have z1 := Go.Qm.Arr.frozen R4 1
    have z2 := Go.Qm.Arr.frozen R4 2
    have z3 := Go.Qm.Arr.frozen R4 3
    simp only [List.getElem?_cons_zero, List.getElem?_cons_succ] at t0 t1 t2 t3
    go_wp2_with fail
    have AZ := (((Go.Qm.Arr.set R4 0 (.int .i64 1)).set 1 (str [])).set 2 (.int .i64 0)).set 3 (.slice none 0 0)
    have q0 := Go.Qm.Arr.cell AZ 0
    have q1 := Go.Qm.Arr.cell AZ 1
    have q2 := Go.Qm.Arr.cell AZ 2
    have q3 := Go.Qm.Arr.cell AZ 3
    simp only [List.set_cons_zero, List.set_cons_succ, List.getElem?_cons_zero, List.getElem?_cons_succ] at q0 q1 q2 q3
    have GZ := grown_set (grown_set (grown_set (grown_set (grown_refl w3 (some gR)) 0 (.int .i64 1)) 1 (str [])) 2 (.int .i64 0)) 3 (.slice none 0 0)
    refine bodyPost_ret (v := .agg #[.int .i64 1, str [], .int .i64 0, (.slice none 0 0)]) (by simp [results, Try.results17, go_sem, q0, q1, q2, q3]) rfl ?_
    exact MPlayP.plain h K2 h1 h2 (Keep.refl _) (ans 1) rfl GZ
set_option maxRecDepth 4000 in
set_option maxHeartbeats 4000000 in
theorem mplay3 (d : Int) (l what : Int) (name : List UInt8) (h : MW B fp w gm rows) (hnm : name.length ≤ 1000000) (hlen : rows.length ≤ 65536) (hrn : ∀ r ∈ rows, r.raw.length ≤ 65536) (hdis : DisR rows) (hd : dirB d = true) (k : List UInt8) (hk : keyF name = some k) :
    Calls Try.prog 17 #[.pointer (some ⟨gm, 0, none⟩), .agg #[.int .i64 3, .int .i64 d, .int .i64 l, str name, .int .i64 what]] w fun e w' => MPlayP B fp w gm (⟨0, k, (mbF d k rows).length, mbF d k rows⟩, rows) e w' := by
  have KC := fun W => key_c name W hnm
  have HKC := Hid.mk KC
  clear KC
  have HK := Hid.mk hk
  clear hk
  have DO := fun W => dirOK_c d W
  rw [hd] at DO
  have CC := fun W (q : Keep w W) => bearers_c d k (h.keep q) hlen hrn hdis
  have hml := mb_len (d := d) (key := k) rows
  generalize mbF d k rows = es at *
  have HDO := Hid.mk DO
  clear DO
  have HCC := Hid.mk CC
  clear CC
  have K1 := ((Keep.refl w).alloc (.cells #[.int .i64 3, .int .i64 d, .int .i64 l, str name, .int .i64 what] 32)).alloc (.cells #[.int .i64 0, str [], .int .i64 0, .slice none 0 0] 29)
  have O1 := (Arr.new w 32 [.int .i64 3, .int .i64 d, .int .i64 l, str name, .int .i64 what]).keep ((Keep.refl _).alloc (.cells #[.int .i64 0, str [], .int .i64 0, .slice none 0 0] 29))
  have R1 := Arr.new (w.alloc (.cells #[.int .i64 3, .int .i64 d, .int .i64 l, str name, .int .i64 what] 32)) 29 [.int .i64 0, str [], .int .i64 0, .slice none 0 0]
  rw [show (w.alloc (.cells #[.int .i64 3, .int .i64 d, .int .i64 l, str name, .int .i64 what] 32)).heap.size = w.heap.size + 1 by simp] at R1
  have o0 := Go.Qm.Arr.cell O1 0
  have o1 := Go.Qm.Arr.cell O1 1
  have o2 := Go.Qm.Arr.cell O1 2
  have o3 := Go.Qm.Arr.cell O1 3
  have o4 := Go.Qm.Arr.cell O1 4
  simp only [List.getElem?_cons_zero, List.getElem?_cons_succ] at o0 o1 o2 o3 o4
  have h1 : w.heap.size ≤ w.heap.size + 1 := Nat.le_succ _
  have h2 := R1.lt
  have hO : Hid (w.heap.size ≤ w.heap.size) := Hid.mk (Nat.le_refl _)
  go_enter Try.func17, Try.ntmps17
  go_wp2_with fail
  generalize (w.alloc (.cells #[.int .i64 3, .int .i64 d, .int .i64 l, str name, .int .i64 what] 32)).alloc (.cells #[.int .i64 0, str [], .int .i64 0, .slice none 0 0] 29) = w1 at *
  generalize w.heap.size + 1 = gR at *
  refine (HKC.out _).mono ?_
  rintro e w2 ⟨hk, k2⟩
  rcases hk with ⟨hK, rfl⟩ | ⟨k', hK, rfl⟩
  · rw [HK.out] at hK; cases hK
  · have e' : k' = k := by rw [HK.out] at hK; exact (Option.some.inj hK).symm
    subst e'
    clear hK
    have K2 := K1.trans k2
    have o1 := k2.cell o1
    have R2 := R1.keep k2
    have h2 : gR < w2.heap.size := Nat.lt_of_lt_of_le h2 k2.size
    go_wp2_with fail
    refine (HDO.out _).mono ?_
    rintro e w3 ⟨rfl, rfl⟩
    go_wp2_with fail
    refine (HCC.out _ K2).mono ?_
    rintro e w4 ⟨v4, rfl, ev, k4⟩
    obtain ⟨av, cv, rfl, hcv, hcm, -⟩ := ent_read ev
    have R4 := R2.keep k4
    have t0 := Go.Qm.Arr.cell R4 0
    have t1 := Go.Qm.Arr.cell R4 1
    have t2 := Go.Qm.Arr.cell R4 2
    have t3 := Go.Qm.Arr.cell R4 3
    have z0 := Go.Qm.Arr.frozen R4 0
    have z1 := Go.Qm.Arr.frozen R4 1
    have z2 := Go.Qm.Arr.frozen R4 2
    have z3 := Go.Qm.Arr.frozen R4 3
    simp only [List.getElem?_cons_zero, List.getElem?_cons_succ] at t0 t1 t2 t3
    go_wp2_with fail
    have AZ := (((Go.Qm.Arr.set R4 0 (.int .i64 0)).set 1 (str k')).set 2 (.int .i64 (es.length : Int))).set 3 (.slice av es.length cv)
    have q0 := Go.Qm.Arr.cell AZ 0
    have q1 := Go.Qm.Arr.cell AZ 1
    have q2 := Go.Qm.Arr.cell AZ 2
    have q3 := Go.Qm.Arr.cell AZ 3
    simp only [List.set_cons_zero, List.set_cons_succ, List.getElem?_cons_zero, List.getElem?_cons_succ] at q0 q1 q2 q3
    have GZ := grown_set (grown_set (grown_set (grown_set (grown_refl w4 (some gR)) 0 (.int .i64 0)) 1 (str k')) 2 (.int .i64 (es.length : Int))) 3 (.slice av es.length cv)
    refine bodyPost_ret (v := .agg #[.int .i64 0, str k', .int .i64 (es.length : Int), (.slice av es.length cv)]) (by simp [results, Try.results17, go_sem, q0, q1, q2, q3]) rfl ?_
    exact MPlayP.fin (a := ⟨0, k', es.length, es⟩) h K2 h1 h2 (Stp.keep k4) (h.keep (K2.trans k4)) ev GZ
end
end Go.Proofs.Qxb6500766a
