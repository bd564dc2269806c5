/- unionvfsm: seek. -/
import Derived.Test.Qxb6500767aNe
namespace Go.Proofs.Qxb6500767a
open Go.RowKit Go.Qm
set_option linter.unusedVariables false
set_option linter.unusedSimpArgs false
attribute [local go_sem ↓] Go.wp_at_zero Go.wp_at_succ
set_option maxRecDepth 6000 in
set_option maxHeartbeats 8000000 in
theorem mSeek_c {B gm gt k : Nat} {fp : Nat → Prop} {w : World} {s : Stt} {O : List Nat} {ov : Value} (o : OpV) (h : MW B fp w gm gt s O ov) (si : SI k s.u s.hs s.T) (hk : k ≤ 70000) (hp : o.path.length ≤ 100000) (hp2 : o.path2.length ≤ 100000) (hdt : o.data.length ≤ 100000) (fl : FL s.hs) :
    Calls Try.prog 54 #[.pointer (some ⟨gm, 0, none⟩), .agg (opC o).toArray] w fun e w' => MP B fp w gm gt ov ⟨(skF s.u s.hs s.T o.h o.off o.wh).2.2, (skF s.u s.hs s.T o.h o.off o.wh).2.1, [], sta0, []⟩ ⟨s.u, (skF s.u s.hs s.T o.h o.off o.wh).1, s.T⟩ e w' := by
  have HH := Hid.mk h
  obtain ⟨ok, oh, ofl, omo, on, oo, owh, op, op2, od⟩ := o
  simp only at hp hp2 hdt ⊢
  obtain ⟨R, hR⟩ : ∃ R, R = skF s.u s.hs s.T oh oo owh := ⟨_, rfl⟩
  rw [← hR]
  unfold skF at hR
  cases ho : opn s.u oh with
  | false =>
    have hg : getOK s.u s.hs oh 0 = false := by rw [get0 fl, ho]
    rw [if_pos hg] at hR
    have HV := Hid.mk hR
    have WF := Hid.mk (fun W (kk : Keep w W) => where_f (h.keep kk) ho)
    clear hR hg ho h
    go_enter Try.func54, Try.ntmps54
    go_upto_region 1 with fail
    obtain ⟨w1, hw1⟩ : ∃ w1, w1 = (w.alloc (.cells (opC ⟨ok, oh, ofl, omo, on, oo, owh, op, op2, od⟩).toArray 37)).alloc (.cells #[.int .i64 0, .int .i64 0, str [], .int .i64 0, .int .i64 0, .int .i64 0, .int .i64 0, .int .i64 0, .slice none 0 0] 34) := ⟨_, rfl⟩
    rw [← hw1]
    have TWO : Two w w1 ⟨ok, oh, ofl, omo, on, oo, owh, op, op2, od⟩ := by rw [hw1]; exact Two.mk' w _
    obtain ⟨gA, hgA⟩ : ∃ g, g = w.heap.size := ⟨_, rfl⟩
    obtain ⟨gB, hgB⟩ : ∃ g, g = w.heap.size + 1 := ⟨_, rfl⟩
    have HGB : Hid (w.heap.size ≤ gB ∧ gB < w1.heap.size) := Hid.mk ⟨by omega, by rw [TWO.sz]; omega⟩
    have HAB : Hid (Arr w1 gB 34 zeroC) := Hid.mk (by rw [hgB]; exact TWO.b)
    have HAA : Hid (Arr w1 gA 37 (opC ⟨ok, oh, ofl, omo, on, oo, owh, op, op2, od⟩)) := Hid.mk (by rw [hgA]; exact TWO.a)
    have K1 := TWO.k
    have HK1 := Hid.mk K1
    have HNF : Hid (¬ fpM fp gm ov gA ∧ ¬ fpM fp gm ov gB ∧ gA ≠ gB ∧ gm ≠ gB ∧ gm ≠ gA) := Hid.mk ⟨fun a => by have := HH.out.flt a; omega, fun a => by have := HH.out.flt a; omega, by omega, fun e => by have := HH.out.flt (Or.inr (Or.inl rfl) : fpM fp gm ov gm); omega, fun e => by have := HH.out.flt (Or.inr (Or.inl rfl) : fpM fp gm ov gm); omega⟩
    rw [← hgB, ← hgA]
    clear hw1 TWO hgA hgB
    have a0 := HAA.out.cell 0
    have a1 := HAA.out.cell 1
    have a2 := HAA.out.cell 2
    have a3 := HAA.out.cell 3
    have a4 := HAA.out.cell 4
    have a5 := HAA.out.cell 5
    have a6 := HAA.out.cell 6
    have a7 := HAA.out.cell 7
    have a8 := HAA.out.cell 8
    have a9 := HAA.out.cell 9
    simp only [opC, List.getElem?_cons_zero, List.getElem?_cons_succ] at a0 a1 a2 a3 a4 a5 a6 a7 a8 a9
    obtain ⟨x0, x1⟩ := (HH.out.keep K1).cells
    go_wp2_with fail
    refine (WF.out _ K1).mono ?_
    rintro e y1 ⟨rfl, hy1⟩
    subst hy1
    have HQ1 := Hid.mk (Keep.refl y1)
    go_wp2_with fail
    refine (refuse_c 1 _).mono ?_
    rintro e y2 ⟨rfl, q2⟩
    obtain ⟨b0, b1, b2, b3, b4, b5, b6, b7, b8, z0, z1, z2, z3, z4, z5, z6, z7, z8⟩ := z9 (HAB.out.keep (HQ1.out.trans q2))
    have HE := Hid.mk (MP.fin (a := ⟨1, 0, [], sta0, []⟩) (v := (.slice none 0 0)) HH.out HK1.out (HH.out.keep (HK1.out.trans (HQ1.out.trans q2))) (Stp.keep (HQ1.out.trans q2)) HGB.out (OwnS.nil _ _ _ _ _) (fr9 (.int .i64 1) (.int .i64 0) (str []) (.int .i64 0) (.int .i64 0) (.int .i64 0) (.int .i64 0) (.int .i64 0) (.slice none 0 0)))
    have HAZ := Hid.mk (arr9 (HAB.out.keep (HQ1.out.trans q2)) (.int .i64 1) (.int .i64 0) (str []) (.int .i64 0) (.int .i64 0) (.int .i64 0) (.int .i64 0) (.int .i64 0) (.slice none 0 0))
    clear q2
    go_wp2_with fail
    refine bodyPost_ret (v := .agg (ansC ⟨1, 0, [], sta0, []⟩ (.slice none 0 0)).toArray) (results_cell_row1 rfl _ _ gB 34 _ (0, 0) _ rfl HAZ.out Try.underlying34 rfl s34) rfl ?_
    rw [HV.out]
    exact HE.out
  | true =>
    have hg : getOK s.u s.hs oh 0 = true := by rw [get0 fl, ho]
    rw [if_neg (by rw [hg]; decide)] at hR
    clear hg
    obtain ⟨i, hi, hox, hox2⟩ := h.rel.idx ho
    have X := HX.of h.rel si hi
    have hfl := fl O[i]
    rw [hox2] at hR
    obtain ⟨g, c, hov, l1, l2, -⟩ := h.row hi
    subst hov
    have HWT : Hid (∀ W, Keep w W → Calls Try.prog 55 #[.pointer (some ⟨gm, 0, none⟩), .int .i64 oh] W fun e w' => e = .returned (.int .i64 i) ∧ w' = W) := Hid.mk (fun W (kk : Keep w W) => by rw [hox]; exact where_t (h.keep kk) hi)
    clear hox2 ho hox
    have HROW := Hid.mk (fun W (kk : Keep w W) => (h.keep kk).rowAt hi)
    have HTR := Hid.mk (fun W (kk : Keep w W) => (h.keep kk).tree.tr)
    have HKC := Hid.mk (fun W (kk : Keep w W) => kindOf_c (h.keep kk) X.nl)
    have HOFF := Hid.mk (fun W (M : MW B fp W gm gt s O (.slice (some ⟨g, 0, none⟩) O.length c)) z => M.setOff hi z)
    have HCUR := Hid.mk (fun W (M : MW B fp W gm gt s O (.slice (some ⟨g, 0, none⟩) O.length c)) z => M.setCur hi z)
    have i1 : (i : Int) < O.length := by omega
    have i2 : (0 : Int) ≤ i := by omega
    unfold maxLen at l2
    have hD := si.t.data (hat s.hs O[i]).node
    by_cases hd : (at' s.T (hat s.hs O[i]).node).kind = 2
    · rw [if_pos (by rw [X.dir]; exact decide_eq_true hd)] at hR
      rw [hd] at HKC
      by_cases hz : oo ≠ 0 ∨ owh ≠ 0
      · rw [if_pos hz] at hR
        have HV := Hid.mk hR
        clear hR h si fl hfl X
        by_cases hz1 : oo = 0
        · have hw : (owh != 0) = true := by simpa [hz1] using hz
          have hw0 : (oo != 0) = false := by simpa using hz1
          clear hz hz1
          go_enter Try.func54, Try.ntmps54
          go_upto_region 1 with fail
          obtain ⟨w1, hw1⟩ : ∃ w1, w1 = (w.alloc (.cells (opC ⟨ok, oh, ofl, omo, on, oo, owh, op, op2, od⟩).toArray 37)).alloc (.cells #[.int .i64 0, .int .i64 0, str [], .int .i64 0, .int .i64 0, .int .i64 0, .int .i64 0, .int .i64 0, .slice none 0 0] 34) := ⟨_, rfl⟩
          rw [← hw1]
          have TWO : Two w w1 ⟨ok, oh, ofl, omo, on, oo, owh, op, op2, od⟩ := by rw [hw1]; exact Two.mk' w _
          obtain ⟨gA, hgA⟩ : ∃ g, g = w.heap.size := ⟨_, rfl⟩
          obtain ⟨gB, hgB⟩ : ∃ g, g = w.heap.size + 1 := ⟨_, rfl⟩
          have HGB : Hid (w.heap.size ≤ gB ∧ gB < w1.heap.size) := Hid.mk ⟨by omega, by rw [TWO.sz]; omega⟩
          have HAB : Hid (Arr w1 gB 34 zeroC) := Hid.mk (by rw [hgB]; exact TWO.b)
          have HAA : Hid (Arr w1 gA 37 (opC ⟨ok, oh, ofl, omo, on, oo, owh, op, op2, od⟩)) := Hid.mk (by rw [hgA]; exact TWO.a)
          have K1 := TWO.k
          have HK1 := Hid.mk K1
          have HNF : Hid (¬ fpM fp gm (.slice (some ⟨g, 0, none⟩) O.length c) gA ∧ ¬ fpM fp gm (.slice (some ⟨g, 0, none⟩) O.length c) gB ∧ gA ≠ gB ∧ gm ≠ gB ∧ gm ≠ gA) := Hid.mk ⟨fun a => by have := HH.out.flt a; omega, fun a => by have := HH.out.flt a; omega, by omega, fun e => by have := HH.out.flt (Or.inr (Or.inl rfl) : fpM fp gm (.slice (some ⟨g, 0, none⟩) O.length c) gm); omega, fun e => by have := HH.out.flt (Or.inr (Or.inl rfl) : fpM fp gm (.slice (some ⟨g, 0, none⟩) O.length c) gm); omega⟩
          rw [← hgB, ← hgA]
          clear hw1 TWO hgA hgB
          have a0 := HAA.out.cell 0
          have a1 := HAA.out.cell 1
          have a2 := HAA.out.cell 2
          have a3 := HAA.out.cell 3
          have a4 := HAA.out.cell 4
          have a5 := HAA.out.cell 5
          have a6 := HAA.out.cell 6
          have a7 := HAA.out.cell 7
          have a8 := HAA.out.cell 8
          have a9 := HAA.out.cell 9
          simp only [opC, List.getElem?_cons_zero, List.getElem?_cons_succ] at a0 a1 a2 a3 a4 a5 a6 a7 a8 a9
          obtain ⟨x0, x1⟩ := (HH.out.keep K1).cells
          obtain ⟨fz, r0, r1, r2, r3, r4, r5, r6⟩ := HROW.out _ K1
          go_wp2_with fail
          refine (HWT.out _ K1).mono ?_
          rintro e y1 ⟨rfl, hy1⟩
          subst hy1
          go_wp2_with fail
          refine (HKC.out _ K1).mono ?_
          rintro e y2 ⟨rfl, hy2⟩
          subst hy2
          have HQ1 := Hid.mk (Keep.refl y2)
          go_wp2_with fail
          refine (refuse_c 2 _).mono ?_
          rintro e y2 ⟨rfl, q2⟩
          obtain ⟨b0, b1, b2, b3, b4, b5, b6, b7, b8, z0, z1, z2, z3, z4, z5, z6, z7, z8⟩ := z9 (HAB.out.keep (HQ1.out.trans q2))
          have HE := Hid.mk (MP.fin (a := ⟨2, 0, [], sta0, []⟩) (v := (.slice none 0 0)) HH.out HK1.out (HH.out.keep (HK1.out.trans (HQ1.out.trans q2))) (Stp.keep (HQ1.out.trans q2)) HGB.out (OwnS.nil _ _ _ _ _) (fr9 (.int .i64 2) (.int .i64 0) (str []) (.int .i64 0) (.int .i64 0) (.int .i64 0) (.int .i64 0) (.int .i64 0) (.slice none 0 0)))
          have HAZ := Hid.mk (arr9 (HAB.out.keep (HQ1.out.trans q2)) (.int .i64 2) (.int .i64 0) (str []) (.int .i64 0) (.int .i64 0) (.int .i64 0) (.int .i64 0) (.int .i64 0) (.slice none 0 0))
          clear q2
          go_wp2_with fail
          refine bodyPost_ret (v := .agg (ansC ⟨2, 0, [], sta0, []⟩ (.slice none 0 0)).toArray) (results_cell_row1 rfl _ _ gB 34 _ (0, 0) _ rfl HAZ.out Try.underlying34 rfl s34) rfl ?_
          rw [HV.out]
          exact HE.out
        · have hw : (oo != 0) = true := by simpa using hz1
          clear hz hz1
          go_enter Try.func54, Try.ntmps54
          go_upto_region 1 with fail
          obtain ⟨w1, hw1⟩ : ∃ w1, w1 = (w.alloc (.cells (opC ⟨ok, oh, ofl, omo, on, oo, owh, op, op2, od⟩).toArray 37)).alloc (.cells #[.int .i64 0, .int .i64 0, str [], .int .i64 0, .int .i64 0, .int .i64 0, .int .i64 0, .int .i64 0, .slice none 0 0] 34) := ⟨_, rfl⟩
          rw [← hw1]
          have TWO : Two w w1 ⟨ok, oh, ofl, omo, on, oo, owh, op, op2, od⟩ := by rw [hw1]; exact Two.mk' w _
          obtain ⟨gA, hgA⟩ : ∃ g, g = w.heap.size := ⟨_, rfl⟩
          obtain ⟨gB, hgB⟩ : ∃ g, g = w.heap.size + 1 := ⟨_, rfl⟩
          have HGB : Hid (w.heap.size ≤ gB ∧ gB < w1.heap.size) := Hid.mk ⟨by omega, by rw [TWO.sz]; omega⟩
          have HAB : Hid (Arr w1 gB 34 zeroC) := Hid.mk (by rw [hgB]; exact TWO.b)
          have HAA : Hid (Arr w1 gA 37 (opC ⟨ok, oh, ofl, omo, on, oo, owh, op, op2, od⟩)) := Hid.mk (by rw [hgA]; exact TWO.a)
          have K1 := TWO.k
          have HK1 := Hid.mk K1
          have HNF : Hid (¬ fpM fp gm (.slice (some ⟨g, 0, none⟩) O.length c) gA ∧ ¬ fpM fp gm (.slice (some ⟨g, 0, none⟩) O.length c) gB ∧ gA ≠ gB ∧ gm ≠ gB ∧ gm ≠ gA) := Hid.mk ⟨fun a => by have := HH.out.flt a; omega, fun a => by have := HH.out.flt a; omega, by omega, fun e => by have := HH.out.flt (Or.inr (Or.inl rfl) : fpM fp gm (.slice (some ⟨g, 0, none⟩) O.length c) gm); omega, fun e => by have := HH.out.flt (Or.inr (Or.inl rfl) : fpM fp gm (.slice (some ⟨g, 0, none⟩) O.length c) gm); omega⟩
          rw [← hgB, ← hgA]
          clear hw1 TWO hgA hgB
          have a0 := HAA.out.cell 0
          have a1 := HAA.out.cell 1
          have a2 := HAA.out.cell 2
          have a3 := HAA.out.cell 3
          have a4 := HAA.out.cell 4
          have a5 := HAA.out.cell 5
          have a6 := HAA.out.cell 6
          have a7 := HAA.out.cell 7
          have a8 := HAA.out.cell 8
          have a9 := HAA.out.cell 9
          simp only [opC, List.getElem?_cons_zero, List.getElem?_cons_succ] at a0 a1 a2 a3 a4 a5 a6 a7 a8 a9
          obtain ⟨x0, x1⟩ := (HH.out.keep K1).cells
          obtain ⟨fz, r0, r1, r2, r3, r4, r5, r6⟩ := HROW.out _ K1
          go_wp2_with fail
          refine (HWT.out _ K1).mono ?_
          rintro e y1 ⟨rfl, hy1⟩
          subst hy1
          go_wp2_with fail
          refine (HKC.out _ K1).mono ?_
          rintro e y2 ⟨rfl, hy2⟩
          subst hy2
          have HQ1 := Hid.mk (Keep.refl y2)
          go_wp2_with fail
          refine (refuse_c 2 _).mono ?_
          rintro e y2 ⟨rfl, q2⟩
          obtain ⟨b0, b1, b2, b3, b4, b5, b6, b7, b8, z0, z1, z2, z3, z4, z5, z6, z7, z8⟩ := z9 (HAB.out.keep (HQ1.out.trans q2))
          have HE := Hid.mk (MP.fin (a := ⟨2, 0, [], sta0, []⟩) (v := (.slice none 0 0)) HH.out HK1.out (HH.out.keep (HK1.out.trans (HQ1.out.trans q2))) (Stp.keep (HQ1.out.trans q2)) HGB.out (OwnS.nil _ _ _ _ _) (fr9 (.int .i64 2) (.int .i64 0) (str []) (.int .i64 0) (.int .i64 0) (.int .i64 0) (.int .i64 0) (.int .i64 0) (.slice none 0 0)))
          have HAZ := Hid.mk (arr9 (HAB.out.keep (HQ1.out.trans q2)) (.int .i64 2) (.int .i64 0) (str []) (.int .i64 0) (.int .i64 0) (.int .i64 0) (.int .i64 0) (.int .i64 0) (.slice none 0 0))
          clear q2
          go_wp2_with fail
          refine bodyPost_ret (v := .agg (ansC ⟨2, 0, [], sta0, []⟩ (.slice none 0 0)).toArray) (results_cell_row1 rfl _ _ gB 34 _ (0, 0) _ rfl HAZ.out Try.underlying34 rfl s34) rfl ?_
          rw [HV.out]
          exact HE.out
      · rw [if_neg hz] at hR
        have hw0 : (oo != 0) = false := by simpa using (show oo = 0 by omega)
        have hw1 : (owh != 0) = false := by simpa using (show owh = 0 by omega)
        have HV := Hid.mk hR
        clear hR h si fl hfl X hz
        go_enter Try.func54, Try.ntmps54
        go_upto_region 1 with fail
        obtain ⟨w1, hw1⟩ : ∃ w1, w1 = (w.alloc (.cells (opC ⟨ok, oh, ofl, omo, on, oo, owh, op, op2, od⟩).toArray 37)).alloc (.cells #[.int .i64 0, .int .i64 0, str [], .int .i64 0, .int .i64 0, .int .i64 0, .int .i64 0, .int .i64 0, .slice none 0 0] 34) := ⟨_, rfl⟩
        rw [← hw1]
        have TWO : Two w w1 ⟨ok, oh, ofl, omo, on, oo, owh, op, op2, od⟩ := by rw [hw1]; exact Two.mk' w _
        obtain ⟨gA, hgA⟩ : ∃ g, g = w.heap.size := ⟨_, rfl⟩
        obtain ⟨gB, hgB⟩ : ∃ g, g = w.heap.size + 1 := ⟨_, rfl⟩
        have HGB : Hid (w.heap.size ≤ gB ∧ gB < w1.heap.size) := Hid.mk ⟨by omega, by rw [TWO.sz]; omega⟩
        have HAB : Hid (Arr w1 gB 34 zeroC) := Hid.mk (by rw [hgB]; exact TWO.b)
        have HAA : Hid (Arr w1 gA 37 (opC ⟨ok, oh, ofl, omo, on, oo, owh, op, op2, od⟩)) := Hid.mk (by rw [hgA]; exact TWO.a)
        have K1 := TWO.k
        have HK1 := Hid.mk K1
        have HNF : Hid (¬ fpM fp gm (.slice (some ⟨g, 0, none⟩) O.length c) gA ∧ ¬ fpM fp gm (.slice (some ⟨g, 0, none⟩) O.length c) gB ∧ gA ≠ gB ∧ gm ≠ gB ∧ gm ≠ gA) := Hid.mk ⟨fun a => by have := HH.out.flt a; omega, fun a => by have := HH.out.flt a; omega, by omega, fun e => by have := HH.out.flt (Or.inr (Or.inl rfl) : fpM fp gm (.slice (some ⟨g, 0, none⟩) O.length c) gm); omega, fun e => by have := HH.out.flt (Or.inr (Or.inl rfl) : fpM fp gm (.slice (some ⟨g, 0, none⟩) O.length c) gm); omega⟩
        rw [← hgB, ← hgA]
        clear hw1 TWO hgA hgB
        have a0 := HAA.out.cell 0
        have a1 := HAA.out.cell 1
        have a2 := HAA.out.cell 2
        have a3 := HAA.out.cell 3
        have a4 := HAA.out.cell 4
        have a5 := HAA.out.cell 5
        have a6 := HAA.out.cell 6
        have a7 := HAA.out.cell 7
        have a8 := HAA.out.cell 8
        have a9 := HAA.out.cell 9
        simp only [opC, List.getElem?_cons_zero, List.getElem?_cons_succ] at a0 a1 a2 a3 a4 a5 a6 a7 a8 a9
        obtain ⟨x0, x1⟩ := (HH.out.keep K1).cells
        obtain ⟨fz, r0, r1, r2, r3, r4, r5, r6⟩ := HROW.out _ K1
        go_wp2_with fail
        refine (HWT.out _ K1).mono ?_
        rintro e y1 ⟨rfl, hy1⟩
        subst hy1
        go_wp2_with fail
        refine (HKC.out _ K1).mono ?_
        rintro e y2 ⟨rfl, hy2⟩
        subst hy2
        have HQ1 := Hid.mk (Keep.refl y2)
        have z6 := fz (i * 7 + 6)
        obtain ⟨M1, s1⟩ := HCUR.out _ (HH.out.keep HK1.out) []
        have HM1 := Hid.mk M1
        have HS1 := Hid.mk s1
        have AB1 : Arr (y2.setCell ⟨g, i * 7 + 6, none⟩ (str [])) gB 34 zeroC := s1.1.arr HNF.out.2.1 HAB.out
        have HAB1 := Hid.mk AB1
        clear M1 s1 AB1 HOFF HCUR HROW HTR
        go_upto_region 8 with fail
        generalize y2.setCell ⟨g, i * 7 + 6, none⟩ (str []) = y3 at *
        obtain ⟨b0, b1, b2, b3, b4, b5, b6, b7, b8, z0, z1, z2, z3, z4, z5, z6, z7, z8⟩ := z9 HAB1.out
        have HE := Hid.mk (MP.fin (a := ⟨0, 0, [], sta0, []⟩) (v := (.slice none 0 0)) HH.out HK1.out HM1.out HS1.out HGB.out (OwnS.nil _ _ _ _ _) (fr9 (.int .i64 0) (.int .i64 0) (str []) (.int .i64 0) (.int .i64 0) (.int .i64 0) (.int .i64 0) (.int .i64 0) (.slice none 0 0)))
        have HAZ := Hid.mk (arr9 HAB1.out (.int .i64 0) (.int .i64 0) (str []) (.int .i64 0) (.int .i64 0) (.int .i64 0) (.int .i64 0) (.int .i64 0) (.slice none 0 0))
        go_wp2_with fail
        refine bodyPost_ret (v := .agg (ansC ⟨0, 0, [], sta0, []⟩ (.slice none 0 0)).toArray) (results_cell_row1 rfl _ _ gB 34 _ (0, 0) _ rfl HAZ.out Try.underlying34 rfl s34) rfl ?_
        rw [HV.out]
        exact HE.out
    · rw [if_neg (by rw [X.dir]; simpa using hd)] at hR
      have n2 : (((at' s.T (hat s.hs O[i]).node).kind : Int) == 2) = false := by simp; omega
      have hSZ : (statF s.T (hat s.hs O[i]).node).size = (at' s.T (hat s.hs O[i]).node).data.length := by unfold statF; simp only; rw [if_neg hd]
      have hof : ((hat s.hs O[i]).off : Int) ≤ 1048576 := by have := X.off; omega
      have hdl : ((at' s.T (hat s.hs O[i]).node).data.length : Int) ≤ 32768 := by omega
      have hnl := X.nl
      by_cases hw : owh < 0 ∨ 2 < owh
      · rw [if_pos hw] at hR
        have HV := Hid.mk hR
        have w0 : (owh != 0) = true := by simp; omega
        have w1' : (owh != 1) = true := by simp; omega
        have w2' : (owh != 2) = true := by simp; omega
        clear hR h si fl hfl X hd hw hSZ
        go_enter Try.func54, Try.ntmps54
        go_upto_region 1 with fail
        obtain ⟨w1, hw1⟩ : ∃ w1, w1 = (w.alloc (.cells (opC ⟨ok, oh, ofl, omo, on, oo, owh, op, op2, od⟩).toArray 37)).alloc (.cells #[.int .i64 0, .int .i64 0, str [], .int .i64 0, .int .i64 0, .int .i64 0, .int .i64 0, .int .i64 0, .slice none 0 0] 34) := ⟨_, rfl⟩
        rw [← hw1]
        have TWO : Two w w1 ⟨ok, oh, ofl, omo, on, oo, owh, op, op2, od⟩ := by rw [hw1]; exact Two.mk' w _
        obtain ⟨gA, hgA⟩ : ∃ g, g = w.heap.size := ⟨_, rfl⟩
        obtain ⟨gB, hgB⟩ : ∃ g, g = w.heap.size + 1 := ⟨_, rfl⟩
        have HGB : Hid (w.heap.size ≤ gB ∧ gB < w1.heap.size) := Hid.mk ⟨by omega, by rw [TWO.sz]; omega⟩
        have HAB : Hid (Arr w1 gB 34 zeroC) := Hid.mk (by rw [hgB]; exact TWO.b)
        have HAA : Hid (Arr w1 gA 37 (opC ⟨ok, oh, ofl, omo, on, oo, owh, op, op2, od⟩)) := Hid.mk (by rw [hgA]; exact TWO.a)
        have K1 := TWO.k
        have HK1 := Hid.mk K1
        have HNF : Hid (¬ fpM fp gm (.slice (some ⟨g, 0, none⟩) O.length c) gA ∧ ¬ fpM fp gm (.slice (some ⟨g, 0, none⟩) O.length c) gB ∧ gA ≠ gB ∧ gm ≠ gB ∧ gm ≠ gA) := Hid.mk ⟨fun a => by have := HH.out.flt a; omega, fun a => by have := HH.out.flt a; omega, by omega, fun e => by have := HH.out.flt (Or.inr (Or.inl rfl) : fpM fp gm (.slice (some ⟨g, 0, none⟩) O.length c) gm); omega, fun e => by have := HH.out.flt (Or.inr (Or.inl rfl) : fpM fp gm (.slice (some ⟨g, 0, none⟩) O.length c) gm); omega⟩
        rw [← hgB, ← hgA]
        clear hw1 TWO hgA hgB
        have a0 := HAA.out.cell 0
        have a1 := HAA.out.cell 1
        have a2 := HAA.out.cell 2
        have a3 := HAA.out.cell 3
        have a4 := HAA.out.cell 4
        have a5 := HAA.out.cell 5
        have a6 := HAA.out.cell 6
        have a7 := HAA.out.cell 7
        have a8 := HAA.out.cell 8
        have a9 := HAA.out.cell 9
        simp only [opC, List.getElem?_cons_zero, List.getElem?_cons_succ] at a0 a1 a2 a3 a4 a5 a6 a7 a8 a9
        obtain ⟨x0, x1⟩ := (HH.out.keep K1).cells
        obtain ⟨fz, r0, r1, r2, r3, r4, r5, r6⟩ := HROW.out _ K1
        go_wp2_with fail
        refine (HWT.out _ K1).mono ?_
        rintro e y1 ⟨rfl, hy1⟩
        subst hy1
        go_wp2_with fail
        refine (HKC.out _ K1).mono ?_
        rintro e y2 ⟨rfl, hy2⟩
        subst hy2
        have HQ1 := Hid.mk (Keep.refl y2)
        go_wp2_with fail
        refine (refuse_c 2 _).mono ?_
        rintro e y2 ⟨rfl, q2⟩
        obtain ⟨b0, b1, b2, b3, b4, b5, b6, b7, b8, z0, z1, z2, z3, z4, z5, z6, z7, z8⟩ := z9 (HAB.out.keep (HQ1.out.trans q2))
        have HE := Hid.mk (MP.fin (a := ⟨2, 0, [], sta0, []⟩) (v := (.slice none 0 0)) HH.out HK1.out (HH.out.keep (HK1.out.trans (HQ1.out.trans q2))) (Stp.keep (HQ1.out.trans q2)) HGB.out (OwnS.nil _ _ _ _ _) (fr9 (.int .i64 2) (.int .i64 0) (str []) (.int .i64 0) (.int .i64 0) (.int .i64 0) (.int .i64 0) (.int .i64 0) (.slice none 0 0)))
        have HAZ := Hid.mk (arr9 (HAB.out.keep (HQ1.out.trans q2)) (.int .i64 2) (.int .i64 0) (str []) (.int .i64 0) (.int .i64 0) (.int .i64 0) (.int .i64 0) (.int .i64 0) (.slice none 0 0))
        clear q2
        go_wp2_with fail
        refine bodyPost_ret (v := .agg (ansC ⟨2, 0, [], sta0, []⟩ (.slice none 0 0)).toArray) (results_cell_row1 rfl _ _ gB 34 _ (0, 0) _ rfl HAZ.out Try.underlying34 rfl s34) rfl ?_
        rw [HV.out]
        exact HE.out
      · rw [if_neg hw] at hR
        obtain hv | hv | hv : owh = 0 ∨ owh = 1 ∨ owh = 2 := by omega
        · have w0 : (owh != 0) = false := by simp; omega
          have w3 : (owh == 1) = false := by simp; omega
          have w4 : (owh == 2) = false := by simp; omega
          have hbs : bsF s.T (hat s.hs O[i]) owh = 0 := by unfold bsF; rw [if_pos hv]
          rw [hbs] at hR
          clear hbs
          by_cases ho1 : oo < -1048576
          · rw [if_pos (Or.inl ho1)] at hR
            have HV := Hid.mk hR
            clear hR h si fl hfl X hd hw hv hSZ
            go_enter Try.func54, Try.ntmps54
            go_upto_region 1 with fail
            obtain ⟨w1, hw1⟩ : ∃ w1, w1 = (w.alloc (.cells (opC ⟨ok, oh, ofl, omo, on, oo, owh, op, op2, od⟩).toArray 37)).alloc (.cells #[.int .i64 0, .int .i64 0, str [], .int .i64 0, .int .i64 0, .int .i64 0, .int .i64 0, .int .i64 0, .slice none 0 0] 34) := ⟨_, rfl⟩
            rw [← hw1]
            have TWO : Two w w1 ⟨ok, oh, ofl, omo, on, oo, owh, op, op2, od⟩ := by rw [hw1]; exact Two.mk' w _
            obtain ⟨gA, hgA⟩ : ∃ g, g = w.heap.size := ⟨_, rfl⟩
            obtain ⟨gB, hgB⟩ : ∃ g, g = w.heap.size + 1 := ⟨_, rfl⟩
            have HGB : Hid (w.heap.size ≤ gB ∧ gB < w1.heap.size) := Hid.mk ⟨by omega, by rw [TWO.sz]; omega⟩
            have HAB : Hid (Arr w1 gB 34 zeroC) := Hid.mk (by rw [hgB]; exact TWO.b)
            have HAA : Hid (Arr w1 gA 37 (opC ⟨ok, oh, ofl, omo, on, oo, owh, op, op2, od⟩)) := Hid.mk (by rw [hgA]; exact TWO.a)
            have K1 := TWO.k
            have HK1 := Hid.mk K1
            have HNF : Hid (¬ fpM fp gm (.slice (some ⟨g, 0, none⟩) O.length c) gA ∧ ¬ fpM fp gm (.slice (some ⟨g, 0, none⟩) O.length c) gB ∧ gA ≠ gB ∧ gm ≠ gB ∧ gm ≠ gA) := Hid.mk ⟨fun a => by have := HH.out.flt a; omega, fun a => by have := HH.out.flt a; omega, by omega, fun e => by have := HH.out.flt (Or.inr (Or.inl rfl) : fpM fp gm (.slice (some ⟨g, 0, none⟩) O.length c) gm); omega, fun e => by have := HH.out.flt (Or.inr (Or.inl rfl) : fpM fp gm (.slice (some ⟨g, 0, none⟩) O.length c) gm); omega⟩
            rw [← hgB, ← hgA]
            clear hw1 TWO hgA hgB
            have a0 := HAA.out.cell 0
            have a1 := HAA.out.cell 1
            have a2 := HAA.out.cell 2
            have a3 := HAA.out.cell 3
            have a4 := HAA.out.cell 4
            have a5 := HAA.out.cell 5
            have a6 := HAA.out.cell 6
            have a7 := HAA.out.cell 7
            have a8 := HAA.out.cell 8
            have a9 := HAA.out.cell 9
            simp only [opC, List.getElem?_cons_zero, List.getElem?_cons_succ] at a0 a1 a2 a3 a4 a5 a6 a7 a8 a9
            obtain ⟨x0, x1⟩ := (HH.out.keep K1).cells
            obtain ⟨fz, r0, r1, r2, r3, r4, r5, r6⟩ := HROW.out _ K1
            go_wp2_with fail
            refine (HWT.out _ K1).mono ?_
            rintro e y1 ⟨rfl, hy1⟩
            subst hy1
            go_wp2_with fail
            refine (HKC.out _ K1).mono ?_
            rintro e y2 ⟨rfl, hy2⟩
            subst hy2
            have HQ1 := Hid.mk (Keep.refl y2)
            go_wp2_with fail
            refine (refuse_c 2 _).mono ?_
            rintro e y2 ⟨rfl, q2⟩
            obtain ⟨b0, b1, b2, b3, b4, b5, b6, b7, b8, z0, z1, z2, z3, z4, z5, z6, z7, z8⟩ := z9 (HAB.out.keep (HQ1.out.trans q2))
            have HE := Hid.mk (MP.fin (a := ⟨2, 0, [], sta0, []⟩) (v := (.slice none 0 0)) HH.out HK1.out (HH.out.keep (HK1.out.trans (HQ1.out.trans q2))) (Stp.keep (HQ1.out.trans q2)) HGB.out (OwnS.nil _ _ _ _ _) (fr9 (.int .i64 2) (.int .i64 0) (str []) (.int .i64 0) (.int .i64 0) (.int .i64 0) (.int .i64 0) (.int .i64 0) (.slice none 0 0)))
            have HAZ := Hid.mk (arr9 (HAB.out.keep (HQ1.out.trans q2)) (.int .i64 2) (.int .i64 0) (str []) (.int .i64 0) (.int .i64 0) (.int .i64 0) (.int .i64 0) (.int .i64 0) (.slice none 0 0))
            clear q2
            go_wp2_with fail
            refine bodyPost_ret (v := .agg (ansC ⟨2, 0, [], sta0, []⟩ (.slice none 0 0)).toArray) (results_cell_row1 rfl _ _ gB 34 _ (0, 0) _ rfl HAZ.out Try.underlying34 rfl s34) rfl ?_
            rw [HV.out]
            exact HE.out
          · by_cases ho2 : 1048576 < oo
            · rw [if_pos (Or.inr (Or.inl ho2))] at hR
              have HV := Hid.mk hR
              clear hR h si fl hfl X hd hw hv hSZ
              go_enter Try.func54, Try.ntmps54
              go_upto_region 1 with fail
              obtain ⟨w1, hw1⟩ : ∃ w1, w1 = (w.alloc (.cells (opC ⟨ok, oh, ofl, omo, on, oo, owh, op, op2, od⟩).toArray 37)).alloc (.cells #[.int .i64 0, .int .i64 0, str [], .int .i64 0, .int .i64 0, .int .i64 0, .int .i64 0, .int .i64 0, .slice none 0 0] 34) := ⟨_, rfl⟩
              rw [← hw1]
              have TWO : Two w w1 ⟨ok, oh, ofl, omo, on, oo, owh, op, op2, od⟩ := by rw [hw1]; exact Two.mk' w _
              obtain ⟨gA, hgA⟩ : ∃ g, g = w.heap.size := ⟨_, rfl⟩
              obtain ⟨gB, hgB⟩ : ∃ g, g = w.heap.size + 1 := ⟨_, rfl⟩
              have HGB : Hid (w.heap.size ≤ gB ∧ gB < w1.heap.size) := Hid.mk ⟨by omega, by rw [TWO.sz]; omega⟩
              have HAB : Hid (Arr w1 gB 34 zeroC) := Hid.mk (by rw [hgB]; exact TWO.b)
              have HAA : Hid (Arr w1 gA 37 (opC ⟨ok, oh, ofl, omo, on, oo, owh, op, op2, od⟩)) := Hid.mk (by rw [hgA]; exact TWO.a)
              have K1 := TWO.k
              have HK1 := Hid.mk K1
              have HNF : Hid (¬ fpM fp gm (.slice (some ⟨g, 0, none⟩) O.length c) gA ∧ ¬ fpM fp gm (.slice (some ⟨g, 0, none⟩) O.length c) gB ∧ gA ≠ gB ∧ gm ≠ gB ∧ gm ≠ gA) := Hid.mk ⟨fun a => by have := HH.out.flt a; omega, fun a => by have := HH.out.flt a; omega, by omega, fun e => by have := HH.out.flt (Or.inr (Or.inl rfl) : fpM fp gm (.slice (some ⟨g, 0, none⟩) O.length c) gm); omega, fun e => by have := HH.out.flt (Or.inr (Or.inl rfl) : fpM fp gm (.slice (some ⟨g, 0, none⟩) O.length c) gm); omega⟩
              rw [← hgB, ← hgA]
              clear hw1 TWO hgA hgB
              have a0 := HAA.out.cell 0
              have a1 := HAA.out.cell 1
              have a2 := HAA.out.cell 2
              have a3 := HAA.out.cell 3
              have a4 := HAA.out.cell 4
              have a5 := HAA.out.cell 5
              have a6 := HAA.out.cell 6
              have a7 := HAA.out.cell 7
              have a8 := HAA.out.cell 8
              have a9 := HAA.out.cell 9
              simp only [opC, List.getElem?_cons_zero, List.getElem?_cons_succ] at a0 a1 a2 a3 a4 a5 a6 a7 a8 a9
              obtain ⟨x0, x1⟩ := (HH.out.keep K1).cells
              obtain ⟨fz, r0, r1, r2, r3, r4, r5, r6⟩ := HROW.out _ K1
              go_wp2_with fail
              refine (HWT.out _ K1).mono ?_
              rintro e y1 ⟨rfl, hy1⟩
              subst hy1
              go_wp2_with fail
              refine (HKC.out _ K1).mono ?_
              rintro e y2 ⟨rfl, hy2⟩
              subst hy2
              have HQ1 := Hid.mk (Keep.refl y2)
              go_wp2_with fail
              refine (refuse_c 2 _).mono ?_
              rintro e y2 ⟨rfl, q2⟩
              obtain ⟨b0, b1, b2, b3, b4, b5, b6, b7, b8, z0, z1, z2, z3, z4, z5, z6, z7, z8⟩ := z9 (HAB.out.keep (HQ1.out.trans q2))
              have HE := Hid.mk (MP.fin (a := ⟨2, 0, [], sta0, []⟩) (v := (.slice none 0 0)) HH.out HK1.out (HH.out.keep (HK1.out.trans (HQ1.out.trans q2))) (Stp.keep (HQ1.out.trans q2)) HGB.out (OwnS.nil _ _ _ _ _) (fr9 (.int .i64 2) (.int .i64 0) (str []) (.int .i64 0) (.int .i64 0) (.int .i64 0) (.int .i64 0) (.int .i64 0) (.slice none 0 0)))
              have HAZ := Hid.mk (arr9 (HAB.out.keep (HQ1.out.trans q2)) (.int .i64 2) (.int .i64 0) (str []) (.int .i64 0) (.int .i64 0) (.int .i64 0) (.int .i64 0) (.int .i64 0) (.slice none 0 0))
              clear q2
              go_wp2_with fail
              refine bodyPost_ret (v := .agg (ansC ⟨2, 0, [], sta0, []⟩ (.slice none 0 0)).toArray) (results_cell_row1 rfl _ _ gB 34 _ (0, 0) _ rfl HAZ.out Try.underlying34 rfl s34) rfl ?_
              rw [HV.out]
              exact HE.out
            · obtain ⟨tz, hto⟩ : ∃ tz : Int, tz = ((0 : Nat) : Int) + oo := ⟨_, rfl⟩
              rw [← hto] at hR
              have hoA : -1048576 ≤ oo := by omega
              have hoB : oo ≤ 1048576 := by omega
              have HTO := Hid.mk hto
              obtain rfl : tz = oo := by omega
              have VS := fun W => sizeOK_c tz W
              cases hvs : vsB tz with
              | false =>
                rw [if_pos (Or.inr (Or.inr hvs))] at hR
                have HV := Hid.mk hR
                rw [hvs] at VS
                have HVS := Hid.mk VS
                clear hto hvs VS ho1 ho2
                clear hR h si fl hfl X hd hw hv hSZ
                go_enter Try.func54, Try.ntmps54
                go_upto_region 1 with fail
                obtain ⟨w1, hw1⟩ : ∃ w1, w1 = (w.alloc (.cells (opC ⟨ok, oh, ofl, omo, on, tz, owh, op, op2, od⟩).toArray 37)).alloc (.cells #[.int .i64 0, .int .i64 0, str [], .int .i64 0, .int .i64 0, .int .i64 0, .int .i64 0, .int .i64 0, .slice none 0 0] 34) := ⟨_, rfl⟩
                rw [← hw1]
                have TWO : Two w w1 ⟨ok, oh, ofl, omo, on, tz, owh, op, op2, od⟩ := by rw [hw1]; exact Two.mk' w _
                obtain ⟨gA, hgA⟩ : ∃ g, g = w.heap.size := ⟨_, rfl⟩
                obtain ⟨gB, hgB⟩ : ∃ g, g = w.heap.size + 1 := ⟨_, rfl⟩
                have HGB : Hid (w.heap.size ≤ gB ∧ gB < w1.heap.size) := Hid.mk ⟨by omega, by rw [TWO.sz]; omega⟩
                have HAB : Hid (Arr w1 gB 34 zeroC) := Hid.mk (by rw [hgB]; exact TWO.b)
                have HAA : Hid (Arr w1 gA 37 (opC ⟨ok, oh, ofl, omo, on, tz, owh, op, op2, od⟩)) := Hid.mk (by rw [hgA]; exact TWO.a)
                have K1 := TWO.k
                have HK1 := Hid.mk K1
                have HNF : Hid (¬ fpM fp gm (.slice (some ⟨g, 0, none⟩) O.length c) gA ∧ ¬ fpM fp gm (.slice (some ⟨g, 0, none⟩) O.length c) gB ∧ gA ≠ gB ∧ gm ≠ gB ∧ gm ≠ gA) := Hid.mk ⟨fun a => by have := HH.out.flt a; omega, fun a => by have := HH.out.flt a; omega, by omega, fun e => by have := HH.out.flt (Or.inr (Or.inl rfl) : fpM fp gm (.slice (some ⟨g, 0, none⟩) O.length c) gm); omega, fun e => by have := HH.out.flt (Or.inr (Or.inl rfl) : fpM fp gm (.slice (some ⟨g, 0, none⟩) O.length c) gm); omega⟩
                rw [← hgB, ← hgA]
                clear hw1 TWO hgA hgB
                have a0 := HAA.out.cell 0
                have a1 := HAA.out.cell 1
                have a2 := HAA.out.cell 2
                have a3 := HAA.out.cell 3
                have a4 := HAA.out.cell 4
                have a5 := HAA.out.cell 5
                have a6 := HAA.out.cell 6
                have a7 := HAA.out.cell 7
                have a8 := HAA.out.cell 8
                have a9 := HAA.out.cell 9
                simp only [opC, List.getElem?_cons_zero, List.getElem?_cons_succ] at a0 a1 a2 a3 a4 a5 a6 a7 a8 a9
                obtain ⟨x0, x1⟩ := (HH.out.keep K1).cells
                obtain ⟨fz, r0, r1, r2, r3, r4, r5, r6⟩ := HROW.out _ K1
                go_wp2_with fail
                refine (HWT.out _ K1).mono ?_
                rintro e y1 ⟨rfl, hy1⟩
                subst hy1
                go_wp2_with fail
                refine (HKC.out _ K1).mono ?_
                rintro e y2 ⟨rfl, hy2⟩
                subst hy2
                have HQ1 := Hid.mk (Keep.refl y2)
                go_wp2_with fail
                refine (HVS.out _).mono ?_
                rintro e y4 ⟨rfl, hy4⟩
                subst hy4
                go_wp2_with fail
                refine (refuse_c 2 _).mono ?_
                rintro e y2 ⟨rfl, q2⟩
                obtain ⟨b0, b1, b2, b3, b4, b5, b6, b7, b8, z0, z1, z2, z3, z4, z5, z6, z7, z8⟩ := z9 (HAB.out.keep ((Keep.refl y4).trans q2))
                have HE := Hid.mk (MP.fin (a := ⟨2, 0, [], sta0, []⟩) (v := (.slice none 0 0)) HH.out HK1.out (HH.out.keep (HK1.out.trans ((Keep.refl y4).trans q2))) (Stp.keep ((Keep.refl y4).trans q2)) HGB.out (OwnS.nil _ _ _ _ _) (fr9 (.int .i64 2) (.int .i64 0) (str []) (.int .i64 0) (.int .i64 0) (.int .i64 0) (.int .i64 0) (.int .i64 0) (.slice none 0 0)))
                have HAZ := Hid.mk (arr9 (HAB.out.keep ((Keep.refl y4).trans q2)) (.int .i64 2) (.int .i64 0) (str []) (.int .i64 0) (.int .i64 0) (.int .i64 0) (.int .i64 0) (.int .i64 0) (.slice none 0 0))
                clear q2
                go_wp2_with fail
                refine bodyPost_ret (v := .agg (ansC ⟨2, 0, [], sta0, []⟩ (.slice none 0 0)).toArray) (results_cell_row1 rfl _ _ gB 34 _ (0, 0) _ rfl HAZ.out Try.underlying34 rfl s34) rfl ?_
                rw [HV.out]
                exact HE.out
              | true =>
                rw [if_neg (by rw [hvs]; simp; omega)] at hR
                have hz : 0 ≤ tz ∧ tz ≤ 1048576 := by unfold vsB at hvs; simpa using hvs
                have HV := Hid.mk hR
                rw [hvs] at VS
                have HVS := Hid.mk VS
                obtain ⟨z, hz2⟩ : ∃ z : Nat, tz = z := ⟨tz.toNat, by omega⟩
                have HZ := Hid.mk hz2
                have HZ2 : Hid (tz.toNat = z) := Hid.mk (by omega)
                clear hto hvs VS ho1 ho2 hz2
                clear hR h si fl hfl X hd hw hv hSZ
                go_enter Try.func54, Try.ntmps54
                go_upto_region 1 with fail
                obtain ⟨w1, hw1⟩ : ∃ w1, w1 = (w.alloc (.cells (opC ⟨ok, oh, ofl, omo, on, tz, owh, op, op2, od⟩).toArray 37)).alloc (.cells #[.int .i64 0, .int .i64 0, str [], .int .i64 0, .int .i64 0, .int .i64 0, .int .i64 0, .int .i64 0, .slice none 0 0] 34) := ⟨_, rfl⟩
                rw [← hw1]
                have TWO : Two w w1 ⟨ok, oh, ofl, omo, on, tz, owh, op, op2, od⟩ := by rw [hw1]; exact Two.mk' w _
                obtain ⟨gA, hgA⟩ : ∃ g, g = w.heap.size := ⟨_, rfl⟩
                obtain ⟨gB, hgB⟩ : ∃ g, g = w.heap.size + 1 := ⟨_, rfl⟩
                have HGB : Hid (w.heap.size ≤ gB ∧ gB < w1.heap.size) := Hid.mk ⟨by omega, by rw [TWO.sz]; omega⟩
                have HAB : Hid (Arr w1 gB 34 zeroC) := Hid.mk (by rw [hgB]; exact TWO.b)
                have HAA : Hid (Arr w1 gA 37 (opC ⟨ok, oh, ofl, omo, on, tz, owh, op, op2, od⟩)) := Hid.mk (by rw [hgA]; exact TWO.a)
                have K1 := TWO.k
                have HK1 := Hid.mk K1
                have HNF : Hid (¬ fpM fp gm (.slice (some ⟨g, 0, none⟩) O.length c) gA ∧ ¬ fpM fp gm (.slice (some ⟨g, 0, none⟩) O.length c) gB ∧ gA ≠ gB ∧ gm ≠ gB ∧ gm ≠ gA) := Hid.mk ⟨fun a => by have := HH.out.flt a; omega, fun a => by have := HH.out.flt a; omega, by omega, fun e => by have := HH.out.flt (Or.inr (Or.inl rfl) : fpM fp gm (.slice (some ⟨g, 0, none⟩) O.length c) gm); omega, fun e => by have := HH.out.flt (Or.inr (Or.inl rfl) : fpM fp gm (.slice (some ⟨g, 0, none⟩) O.length c) gm); omega⟩
                rw [← hgB, ← hgA]
                clear hw1 TWO hgA hgB
                have a0 := HAA.out.cell 0
                have a1 := HAA.out.cell 1
                have a2 := HAA.out.cell 2
                have a3 := HAA.out.cell 3
                have a4 := HAA.out.cell 4
                have a5 := HAA.out.cell 5
                have a6 := HAA.out.cell 6
                have a7 := HAA.out.cell 7
                have a8 := HAA.out.cell 8
                have a9 := HAA.out.cell 9
                simp only [opC, List.getElem?_cons_zero, List.getElem?_cons_succ] at a0 a1 a2 a3 a4 a5 a6 a7 a8 a9
                obtain ⟨x0, x1⟩ := (HH.out.keep K1).cells
                obtain ⟨fz, r0, r1, r2, r3, r4, r5, r6⟩ := HROW.out _ K1
                go_wp2_with fail
                refine (HWT.out _ K1).mono ?_
                rintro e y1 ⟨rfl, hy1⟩
                subst hy1
                go_wp2_with fail
                refine (HKC.out _ K1).mono ?_
                rintro e y2 ⟨rfl, hy2⟩
                subst hy2
                have HQ1 := Hid.mk (Keep.refl y2)
                go_wp2_with fail
                refine (HVS.out _).mono ?_
                rintro e y4 ⟨rfl, hy4⟩
                subst hy4
                have x1' := (Keep.refl y4).cell x1
                have fz' := (HROW.out _ (HK1.out.trans (Keep.refl y4))).1 (i * 7 + 5)
                have r5' := (Keep.refl y4).cell r5
                rw [HZ.out]
                obtain ⟨M1, s1⟩ := HOFF.out _ (HH.out.keep (HK1.out.trans (Keep.refl y4))) z
                have HM1 := Hid.mk M1
                have HS1 := Hid.mk ((Stp.keep (Keep.refl y4)).trans s1)
                have HAB1 := Hid.mk (s1.1.arr HNF.out.2.1 (HAB.out.keep (Keep.refl y4)))
                clear M1 s1 HOFF HCUR HROW HTR
                go_upto_region 21 with fail
                generalize y4.setCell ⟨g, i * 7 + 5, none⟩ (.int .i64 (z : Nat)) = y5 at *
                obtain ⟨b0, b1, b2, b3, b4, b5, b6, b7, b8, z0, z1, z2, z3, z4, z5, z6, z7, z8⟩ := z9 HAB1.out
                have HE := Hid.mk (MP.fin (a := ⟨0, (z : Nat), [], sta0, []⟩) (v := (.slice none 0 0)) HH.out HK1.out HM1.out HS1.out HGB.out (OwnS.nil _ _ _ _ _) (fr9 (.int .i64 0) (.int .i64 (z : Nat)) (str []) (.int .i64 0) (.int .i64 0) (.int .i64 0) (.int .i64 0) (.int .i64 0) (.slice none 0 0)))
                have HAZ := Hid.mk (arr9 HAB1.out (.int .i64 0) (.int .i64 (z : Nat)) (str []) (.int .i64 0) (.int .i64 0) (.int .i64 0) (.int .i64 0) (.int .i64 0) (.slice none 0 0))
                go_wp2_with fail
                refine bodyPost_ret (v := .agg (ansC ⟨0, (z : Nat), [], sta0, []⟩ (.slice none 0 0)).toArray) (results_cell_row1 rfl _ _ gB 34 _ (0, 0) _ rfl HAZ.out Try.underlying34 rfl s34) rfl ?_
                rw [HV.out, HZ2.out, HZ.out]
                exact HE.out
        · have w0 : (owh != 0) = true := by simp; omega
          have w1' : (owh != 1) = false := by simp; omega
          have w3 : (owh == 1) = true := by simp; omega
          have w4 : (owh == 2) = false := by simp; omega
          have hbs : bsF s.T (hat s.hs O[i]) owh = (hat s.hs O[i]).off := by unfold bsF; rw [if_neg (by omega), if_pos hv]
          rw [hbs] at hR
          clear hbs
          by_cases ho1 : oo < -1048576
          · rw [if_pos (Or.inl ho1)] at hR
            have HV := Hid.mk hR
            clear hR h si fl hfl X hd hw hv hSZ
            go_enter Try.func54, Try.ntmps54
            go_upto_region 1 with fail
            obtain ⟨w1, hw1⟩ : ∃ w1, w1 = (w.alloc (.cells (opC ⟨ok, oh, ofl, omo, on, oo, owh, op, op2, od⟩).toArray 37)).alloc (.cells #[.int .i64 0, .int .i64 0, str [], .int .i64 0, .int .i64 0, .int .i64 0, .int .i64 0, .int .i64 0, .slice none 0 0] 34) := ⟨_, rfl⟩
            rw [← hw1]
            have TWO : Two w w1 ⟨ok, oh, ofl, omo, on, oo, owh, op, op2, od⟩ := by rw [hw1]; exact Two.mk' w _
            obtain ⟨gA, hgA⟩ : ∃ g, g = w.heap.size := ⟨_, rfl⟩
            obtain ⟨gB, hgB⟩ : ∃ g, g = w.heap.size + 1 := ⟨_, rfl⟩
            have HGB : Hid (w.heap.size ≤ gB ∧ gB < w1.heap.size) := Hid.mk ⟨by omega, by rw [TWO.sz]; omega⟩
            have HAB : Hid (Arr w1 gB 34 zeroC) := Hid.mk (by rw [hgB]; exact TWO.b)
            have HAA : Hid (Arr w1 gA 37 (opC ⟨ok, oh, ofl, omo, on, oo, owh, op, op2, od⟩)) := Hid.mk (by rw [hgA]; exact TWO.a)
            have K1 := TWO.k
            have HK1 := Hid.mk K1
            have HNF : Hid (¬ fpM fp gm (.slice (some ⟨g, 0, none⟩) O.length c) gA ∧ ¬ fpM fp gm (.slice (some ⟨g, 0, none⟩) O.length c) gB ∧ gA ≠ gB ∧ gm ≠ gB ∧ gm ≠ gA) := Hid.mk ⟨fun a => by have := HH.out.flt a; omega, fun a => by have := HH.out.flt a; omega, by omega, fun e => by have := HH.out.flt (Or.inr (Or.inl rfl) : fpM fp gm (.slice (some ⟨g, 0, none⟩) O.length c) gm); omega, fun e => by have := HH.out.flt (Or.inr (Or.inl rfl) : fpM fp gm (.slice (some ⟨g, 0, none⟩) O.length c) gm); omega⟩
            rw [← hgB, ← hgA]
            clear hw1 TWO hgA hgB
            have a0 := HAA.out.cell 0
            have a1 := HAA.out.cell 1
            have a2 := HAA.out.cell 2
            have a3 := HAA.out.cell 3
            have a4 := HAA.out.cell 4
            have a5 := HAA.out.cell 5
            have a6 := HAA.out.cell 6
            have a7 := HAA.out.cell 7
            have a8 := HAA.out.cell 8
            have a9 := HAA.out.cell 9
            simp only [opC, List.getElem?_cons_zero, List.getElem?_cons_succ] at a0 a1 a2 a3 a4 a5 a6 a7 a8 a9
            obtain ⟨x0, x1⟩ := (HH.out.keep K1).cells
            obtain ⟨fz, r0, r1, r2, r3, r4, r5, r6⟩ := HROW.out _ K1
            go_wp2_with fail
            refine (HWT.out _ K1).mono ?_
            rintro e y1 ⟨rfl, hy1⟩
            subst hy1
            go_wp2_with fail
            refine (HKC.out _ K1).mono ?_
            rintro e y2 ⟨rfl, hy2⟩
            subst hy2
            have HQ1 := Hid.mk (Keep.refl y2)
            go_wp2_with fail
            refine (refuse_c 2 _).mono ?_
            rintro e y2 ⟨rfl, q2⟩
            obtain ⟨b0, b1, b2, b3, b4, b5, b6, b7, b8, z0, z1, z2, z3, z4, z5, z6, z7, z8⟩ := z9 (HAB.out.keep (HQ1.out.trans q2))
            have HE := Hid.mk (MP.fin (a := ⟨2, 0, [], sta0, []⟩) (v := (.slice none 0 0)) HH.out HK1.out (HH.out.keep (HK1.out.trans (HQ1.out.trans q2))) (Stp.keep (HQ1.out.trans q2)) HGB.out (OwnS.nil _ _ _ _ _) (fr9 (.int .i64 2) (.int .i64 0) (str []) (.int .i64 0) (.int .i64 0) (.int .i64 0) (.int .i64 0) (.int .i64 0) (.slice none 0 0)))
            have HAZ := Hid.mk (arr9 (HAB.out.keep (HQ1.out.trans q2)) (.int .i64 2) (.int .i64 0) (str []) (.int .i64 0) (.int .i64 0) (.int .i64 0) (.int .i64 0) (.int .i64 0) (.slice none 0 0))
            clear q2
            go_wp2_with fail
            refine bodyPost_ret (v := .agg (ansC ⟨2, 0, [], sta0, []⟩ (.slice none 0 0)).toArray) (results_cell_row1 rfl _ _ gB 34 _ (0, 0) _ rfl HAZ.out Try.underlying34 rfl s34) rfl ?_
            rw [HV.out]
            exact HE.out
          · by_cases ho2 : 1048576 < oo
            · rw [if_pos (Or.inr (Or.inl ho2))] at hR
              have HV := Hid.mk hR
              clear hR h si fl hfl X hd hw hv hSZ
              go_enter Try.func54, Try.ntmps54
              go_upto_region 1 with fail
              obtain ⟨w1, hw1⟩ : ∃ w1, w1 = (w.alloc (.cells (opC ⟨ok, oh, ofl, omo, on, oo, owh, op, op2, od⟩).toArray 37)).alloc (.cells #[.int .i64 0, .int .i64 0, str [], .int .i64 0, .int .i64 0, .int .i64 0, .int .i64 0, .int .i64 0, .slice none 0 0] 34) := ⟨_, rfl⟩
              rw [← hw1]
              have TWO : Two w w1 ⟨ok, oh, ofl, omo, on, oo, owh, op, op2, od⟩ := by rw [hw1]; exact Two.mk' w _
              obtain ⟨gA, hgA⟩ : ∃ g, g = w.heap.size := ⟨_, rfl⟩
              obtain ⟨gB, hgB⟩ : ∃ g, g = w.heap.size + 1 := ⟨_, rfl⟩
              have HGB : Hid (w.heap.size ≤ gB ∧ gB < w1.heap.size) := Hid.mk ⟨by omega, by rw [TWO.sz]; omega⟩
              have HAB : Hid (Arr w1 gB 34 zeroC) := Hid.mk (by rw [hgB]; exact TWO.b)
              have HAA : Hid (Arr w1 gA 37 (opC ⟨ok, oh, ofl, omo, on, oo, owh, op, op2, od⟩)) := Hid.mk (by rw [hgA]; exact TWO.a)
              have K1 := TWO.k
              have HK1 := Hid.mk K1
              have HNF : Hid (¬ fpM fp gm (.slice (some ⟨g, 0, none⟩) O.length c) gA ∧ ¬ fpM fp gm (.slice (some ⟨g, 0, none⟩) O.length c) gB ∧ gA ≠ gB ∧ gm ≠ gB ∧ gm ≠ gA) := Hid.mk ⟨fun a => by have := HH.out.flt a; omega, fun a => by have := HH.out.flt a; omega, by omega, fun e => by have := HH.out.flt (Or.inr (Or.inl rfl) : fpM fp gm (.slice (some ⟨g, 0, none⟩) O.length c) gm); omega, fun e => by have := HH.out.flt (Or.inr (Or.inl rfl) : fpM fp gm (.slice (some ⟨g, 0, none⟩) O.length c) gm); omega⟩
              rw [← hgB, ← hgA]
              clear hw1 TWO hgA hgB
              have a0 := HAA.out.cell 0
              have a1 := HAA.out.cell 1
              have a2 := HAA.out.cell 2
              have a3 := HAA.out.cell 3
              have a4 := HAA.out.cell 4
              have a5 := HAA.out.cell 5
              have a6 := HAA.out.cell 6
              have a7 := HAA.out.cell 7
              have a8 := HAA.out.cell 8
              have a9 := HAA.out.cell 9
              simp only [opC, List.getElem?_cons_zero, List.getElem?_cons_succ] at a0 a1 a2 a3 a4 a5 a6 a7 a8 a9
              obtain ⟨x0, x1⟩ := (HH.out.keep K1).cells
              obtain ⟨fz, r0, r1, r2, r3, r4, r5, r6⟩ := HROW.out _ K1
              go_wp2_with fail
              refine (HWT.out _ K1).mono ?_
              rintro e y1 ⟨rfl, hy1⟩
              subst hy1
              go_wp2_with fail
              refine (HKC.out _ K1).mono ?_
              rintro e y2 ⟨rfl, hy2⟩
              subst hy2
              have HQ1 := Hid.mk (Keep.refl y2)
              go_wp2_with fail
              refine (refuse_c 2 _).mono ?_
              rintro e y2 ⟨rfl, q2⟩
              obtain ⟨b0, b1, b2, b3, b4, b5, b6, b7, b8, z0, z1, z2, z3, z4, z5, z6, z7, z8⟩ := z9 (HAB.out.keep (HQ1.out.trans q2))
              have HE := Hid.mk (MP.fin (a := ⟨2, 0, [], sta0, []⟩) (v := (.slice none 0 0)) HH.out HK1.out (HH.out.keep (HK1.out.trans (HQ1.out.trans q2))) (Stp.keep (HQ1.out.trans q2)) HGB.out (OwnS.nil _ _ _ _ _) (fr9 (.int .i64 2) (.int .i64 0) (str []) (.int .i64 0) (.int .i64 0) (.int .i64 0) (.int .i64 0) (.int .i64 0) (.slice none 0 0)))
              have HAZ := Hid.mk (arr9 (HAB.out.keep (HQ1.out.trans q2)) (.int .i64 2) (.int .i64 0) (str []) (.int .i64 0) (.int .i64 0) (.int .i64 0) (.int .i64 0) (.int .i64 0) (.slice none 0 0))
              clear q2
              go_wp2_with fail
              refine bodyPost_ret (v := .agg (ansC ⟨2, 0, [], sta0, []⟩ (.slice none 0 0)).toArray) (results_cell_row1 rfl _ _ gB 34 _ (0, 0) _ rfl HAZ.out Try.underlying34 rfl s34) rfl ?_
              rw [HV.out]
              exact HE.out
            · obtain ⟨tz, hto⟩ : ∃ tz : Int, tz = (((hat s.hs O[i]).off : Nat) : Int) + oo := ⟨_, rfl⟩
              rw [← hto] at hR
              have hoA : -1048576 ≤ oo := by omega
              have hoB : oo ≤ 1048576 := by omega
              have HTO := Hid.mk hto
              have VS := fun W => sizeOK_c tz W
              cases hvs : vsB tz with
              | false =>
                rw [if_pos (Or.inr (Or.inr hvs))] at hR
                have HV := Hid.mk hR
                rw [hvs] at VS
                have HVS := Hid.mk VS
                clear hto hvs VS ho1 ho2
                clear hR h si fl hfl X hd hw hv hSZ
                go_enter Try.func54, Try.ntmps54
                go_upto_region 1 with fail
                obtain ⟨w1, hw1⟩ : ∃ w1, w1 = (w.alloc (.cells (opC ⟨ok, oh, ofl, omo, on, oo, owh, op, op2, od⟩).toArray 37)).alloc (.cells #[.int .i64 0, .int .i64 0, str [], .int .i64 0, .int .i64 0, .int .i64 0, .int .i64 0, .int .i64 0, .slice none 0 0] 34) := ⟨_, rfl⟩
                rw [← hw1]
                have TWO : Two w w1 ⟨ok, oh, ofl, omo, on, oo, owh, op, op2, od⟩ := by rw [hw1]; exact Two.mk' w _
                obtain ⟨gA, hgA⟩ : ∃ g, g = w.heap.size := ⟨_, rfl⟩
                obtain ⟨gB, hgB⟩ : ∃ g, g = w.heap.size + 1 := ⟨_, rfl⟩
                have HGB : Hid (w.heap.size ≤ gB ∧ gB < w1.heap.size) := Hid.mk ⟨by omega, by rw [TWO.sz]; omega⟩
                have HAB : Hid (Arr w1 gB 34 zeroC) := Hid.mk (by rw [hgB]; exact TWO.b)
                have HAA : Hid (Arr w1 gA 37 (opC ⟨ok, oh, ofl, omo, on, oo, owh, op, op2, od⟩)) := Hid.mk (by rw [hgA]; exact TWO.a)
                have K1 := TWO.k
                have HK1 := Hid.mk K1
                have HNF : Hid (¬ fpM fp gm (.slice (some ⟨g, 0, none⟩) O.length c) gA ∧ ¬ fpM fp gm (.slice (some ⟨g, 0, none⟩) O.length c) gB ∧ gA ≠ gB ∧ gm ≠ gB ∧ gm ≠ gA) := Hid.mk ⟨fun a => by have := HH.out.flt a; omega, fun a => by have := HH.out.flt a; omega, by omega, fun e => by have := HH.out.flt (Or.inr (Or.inl rfl) : fpM fp gm (.slice (some ⟨g, 0, none⟩) O.length c) gm); omega, fun e => by have := HH.out.flt (Or.inr (Or.inl rfl) : fpM fp gm (.slice (some ⟨g, 0, none⟩) O.length c) gm); omega⟩
                rw [← hgB, ← hgA]
                clear hw1 TWO hgA hgB
                have a0 := HAA.out.cell 0
                have a1 := HAA.out.cell 1
                have a2 := HAA.out.cell 2
                have a3 := HAA.out.cell 3
                have a4 := HAA.out.cell 4
                have a5 := HAA.out.cell 5
                have a6 := HAA.out.cell 6
                have a7 := HAA.out.cell 7
                have a8 := HAA.out.cell 8
                have a9 := HAA.out.cell 9
                simp only [opC, List.getElem?_cons_zero, List.getElem?_cons_succ] at a0 a1 a2 a3 a4 a5 a6 a7 a8 a9
                obtain ⟨x0, x1⟩ := (HH.out.keep K1).cells
                obtain ⟨fz, r0, r1, r2, r3, r4, r5, r6⟩ := HROW.out _ K1
                go_wp2_with fail
                refine (HWT.out _ K1).mono ?_
                rintro e y1 ⟨rfl, hy1⟩
                subst hy1
                go_wp2_with fail
                refine (HKC.out _ K1).mono ?_
                rintro e y2 ⟨rfl, hy2⟩
                subst hy2
                have HQ1 := Hid.mk (Keep.refl y2)
                go_upto_region 15 with fail
                go_cut [6] from 70 to 80 (fun v6 wx => v6 = .int .i64 tz ∧ Keep y2 wx)
                case first =>
                  go_quiet (fail)
                  go_wp2_with fail
                  go_meet
                  case rel => exact ⟨by rw [HTO.out], (Keep.refl _).drewN _⟩
                case rest =>
                  obtain ⟨rfl, q3⟩ := hcut
                  obtain ⟨y3, hy3⟩ : ∃ y3, y3 = wc := ⟨_, rfl⟩
                  subst hy3
                  have HQ3 := Hid.mk q3
                  have a6' := q3.cell a6
                  go_wp2_with fail
                  refine (HVS.out _).mono ?_
                  rintro e y4 ⟨rfl, hy4⟩
                  subst hy4
                  go_wp2_with fail
                  refine (refuse_c 2 _).mono ?_
                  rintro e y2 ⟨rfl, q2⟩
                  obtain ⟨b0, b1, b2, b3, b4, b5, b6, b7, b8, z0, z1, z2, z3, z4, z5, z6, z7, z8⟩ := z9 (HAB.out.keep (HQ3.out.trans q2))
                  have HE := Hid.mk (MP.fin (a := ⟨2, 0, [], sta0, []⟩) (v := (.slice none 0 0)) HH.out HK1.out (HH.out.keep (HK1.out.trans (HQ3.out.trans q2))) (Stp.keep (HQ3.out.trans q2)) HGB.out (OwnS.nil _ _ _ _ _) (fr9 (.int .i64 2) (.int .i64 0) (str []) (.int .i64 0) (.int .i64 0) (.int .i64 0) (.int .i64 0) (.int .i64 0) (.slice none 0 0)))
                  have HAZ := Hid.mk (arr9 (HAB.out.keep (HQ3.out.trans q2)) (.int .i64 2) (.int .i64 0) (str []) (.int .i64 0) (.int .i64 0) (.int .i64 0) (.int .i64 0) (.int .i64 0) (.slice none 0 0))
                  clear q2
                  go_wp2_with fail
                  refine bodyPost_ret (v := .agg (ansC ⟨2, 0, [], sta0, []⟩ (.slice none 0 0)).toArray) (results_cell_row1 rfl _ _ gB 34 _ (0, 0) _ rfl HAZ.out Try.underlying34 rfl s34) rfl ?_
                  rw [HV.out]
                  exact HE.out
              | true =>
                rw [if_neg (by rw [hvs]; simp; omega)] at hR
                have hz : 0 ≤ tz ∧ tz ≤ 1048576 := by unfold vsB at hvs; simpa using hvs
                have HV := Hid.mk hR
                rw [hvs] at VS
                have HVS := Hid.mk VS
                obtain ⟨z, hz2⟩ : ∃ z : Nat, tz = z := ⟨tz.toNat, by omega⟩
                have HZ := Hid.mk hz2
                have HZ2 : Hid (tz.toNat = z) := Hid.mk (by omega)
                clear hto hvs VS ho1 ho2 hz2
                clear hR h si fl hfl X hd hw hv hSZ
                go_enter Try.func54, Try.ntmps54
                go_upto_region 1 with fail
                obtain ⟨w1, hw1⟩ : ∃ w1, w1 = (w.alloc (.cells (opC ⟨ok, oh, ofl, omo, on, oo, owh, op, op2, od⟩).toArray 37)).alloc (.cells #[.int .i64 0, .int .i64 0, str [], .int .i64 0, .int .i64 0, .int .i64 0, .int .i64 0, .int .i64 0, .slice none 0 0] 34) := ⟨_, rfl⟩
                rw [← hw1]
                have TWO : Two w w1 ⟨ok, oh, ofl, omo, on, oo, owh, op, op2, od⟩ := by rw [hw1]; exact Two.mk' w _
                obtain ⟨gA, hgA⟩ : ∃ g, g = w.heap.size := ⟨_, rfl⟩
                obtain ⟨gB, hgB⟩ : ∃ g, g = w.heap.size + 1 := ⟨_, rfl⟩
                have HGB : Hid (w.heap.size ≤ gB ∧ gB < w1.heap.size) := Hid.mk ⟨by omega, by rw [TWO.sz]; omega⟩
                have HAB : Hid (Arr w1 gB 34 zeroC) := Hid.mk (by rw [hgB]; exact TWO.b)
                have HAA : Hid (Arr w1 gA 37 (opC ⟨ok, oh, ofl, omo, on, oo, owh, op, op2, od⟩)) := Hid.mk (by rw [hgA]; exact TWO.a)
                have K1 := TWO.k
                have HK1 := Hid.mk K1
                have HNF : Hid (¬ fpM fp gm (.slice (some ⟨g, 0, none⟩) O.length c) gA ∧ ¬ fpM fp gm (.slice (some ⟨g, 0, none⟩) O.length c) gB ∧ gA ≠ gB ∧ gm ≠ gB ∧ gm ≠ gA) := Hid.mk ⟨fun a => by have := HH.out.flt a; omega, fun a => by have := HH.out.flt a; omega, by omega, fun e => by have := HH.out.flt (Or.inr (Or.inl rfl) : fpM fp gm (.slice (some ⟨g, 0, none⟩) O.length c) gm); omega, fun e => by have := HH.out.flt (Or.inr (Or.inl rfl) : fpM fp gm (.slice (some ⟨g, 0, none⟩) O.length c) gm); omega⟩
                rw [← hgB, ← hgA]
                clear hw1 TWO hgA hgB
                have a0 := HAA.out.cell 0
                have a1 := HAA.out.cell 1
                have a2 := HAA.out.cell 2
                have a3 := HAA.out.cell 3
                have a4 := HAA.out.cell 4
                have a5 := HAA.out.cell 5
                have a6 := HAA.out.cell 6
                have a7 := HAA.out.cell 7
                have a8 := HAA.out.cell 8
                have a9 := HAA.out.cell 9
                simp only [opC, List.getElem?_cons_zero, List.getElem?_cons_succ] at a0 a1 a2 a3 a4 a5 a6 a7 a8 a9
                obtain ⟨x0, x1⟩ := (HH.out.keep K1).cells
                obtain ⟨fz, r0, r1, r2, r3, r4, r5, r6⟩ := HROW.out _ K1
                go_wp2_with fail
                refine (HWT.out _ K1).mono ?_
                rintro e y1 ⟨rfl, hy1⟩
                subst hy1
                go_wp2_with fail
                refine (HKC.out _ K1).mono ?_
                rintro e y2 ⟨rfl, hy2⟩
                subst hy2
                have HQ1 := Hid.mk (Keep.refl y2)
                go_upto_region 15 with fail
                go_cut [6] from 70 to 80 (fun v6 wx => v6 = .int .i64 tz ∧ Keep y2 wx)
                case first =>
                  go_quiet (fail)
                  go_wp2_with fail
                  go_meet
                  case rel => exact ⟨by rw [HTO.out], (Keep.refl _).drewN _⟩
                case rest =>
                  obtain ⟨rfl, q3⟩ := hcut
                  obtain ⟨y3, hy3⟩ : ∃ y3, y3 = wc := ⟨_, rfl⟩
                  subst hy3
                  have HQ3 := Hid.mk q3
                  have a6' := q3.cell a6
                  go_wp2_with fail
                  refine (HVS.out _).mono ?_
                  rintro e y4 ⟨rfl, hy4⟩
                  subst hy4
                  have x1' := HQ3.out.cell x1
                  have fz' := (HROW.out _ (HK1.out.trans HQ3.out)).1 (i * 7 + 5)
                  have r5' := HQ3.out.cell r5
                  rw [HZ.out]
                  obtain ⟨M1, s1⟩ := HOFF.out _ (HH.out.keep (HK1.out.trans HQ3.out)) z
                  have HM1 := Hid.mk M1
                  have HS1 := Hid.mk ((Stp.keep HQ3.out).trans s1)
                  have HAB1 := Hid.mk (s1.1.arr HNF.out.2.1 (HAB.out.keep HQ3.out))
                  clear M1 s1 HOFF HCUR HROW HTR
                  go_upto_region 21 with fail
                  generalize y4.setCell ⟨g, i * 7 + 5, none⟩ (.int .i64 (z : Nat)) = y5 at *
                  obtain ⟨b0, b1, b2, b3, b4, b5, b6, b7, b8, z0, z1, z2, z3, z4, z5, z6, z7, z8⟩ := z9 HAB1.out
                  have HE := Hid.mk (MP.fin (a := ⟨0, (z : Nat), [], sta0, []⟩) (v := (.slice none 0 0)) HH.out HK1.out HM1.out HS1.out HGB.out (OwnS.nil _ _ _ _ _) (fr9 (.int .i64 0) (.int .i64 (z : Nat)) (str []) (.int .i64 0) (.int .i64 0) (.int .i64 0) (.int .i64 0) (.int .i64 0) (.slice none 0 0)))
                  have HAZ := Hid.mk (arr9 HAB1.out (.int .i64 0) (.int .i64 (z : Nat)) (str []) (.int .i64 0) (.int .i64 0) (.int .i64 0) (.int .i64 0) (.int .i64 0) (.slice none 0 0))
                  go_wp2_with fail
                  refine bodyPost_ret (v := .agg (ansC ⟨0, (z : Nat), [], sta0, []⟩ (.slice none 0 0)).toArray) (results_cell_row1 rfl _ _ gB 34 _ (0, 0) _ rfl HAZ.out Try.underlying34 rfl s34) rfl ?_
                  rw [HV.out, HZ2.out, HZ.out]
                  exact HE.out
        · have w0 : (owh != 0) = true := by simp; omega
          have w1' : (owh != 1) = true := by simp; omega
          have w2' : (owh != 2) = false := by simp; omega
          have w3 : (owh == 1) = false := by simp; omega
          have w4 : (owh == 2) = true := by simp; omega
          have hbs : bsF s.T (hat s.hs O[i]) owh = (at' s.T (hat s.hs O[i]).node).data.length := by unfold bsF; rw [if_neg (by omega), if_neg (by omega), hSZ]
          rw [hbs] at hR
          clear hbs
          by_cases ho1 : oo < -1048576
          · rw [if_pos (Or.inl ho1)] at hR
            have HV := Hid.mk hR
            clear hR h si fl hfl X hd hw hv hSZ
            go_enter Try.func54, Try.ntmps54
            go_upto_region 1 with fail
            obtain ⟨w1, hw1⟩ : ∃ w1, w1 = (w.alloc (.cells (opC ⟨ok, oh, ofl, omo, on, oo, owh, op, op2, od⟩).toArray 37)).alloc (.cells #[.int .i64 0, .int .i64 0, str [], .int .i64 0, .int .i64 0, .int .i64 0, .int .i64 0, .int .i64 0, .slice none 0 0] 34) := ⟨_, rfl⟩
            rw [← hw1]
            have TWO : Two w w1 ⟨ok, oh, ofl, omo, on, oo, owh, op, op2, od⟩ := by rw [hw1]; exact Two.mk' w _
            obtain ⟨gA, hgA⟩ : ∃ g, g = w.heap.size := ⟨_, rfl⟩
            obtain ⟨gB, hgB⟩ : ∃ g, g = w.heap.size + 1 := ⟨_, rfl⟩
            have HGB : Hid (w.heap.size ≤ gB ∧ gB < w1.heap.size) := Hid.mk ⟨by omega, by rw [TWO.sz]; omega⟩
            have HAB : Hid (Arr w1 gB 34 zeroC) := Hid.mk (by rw [hgB]; exact TWO.b)
            have HAA : Hid (Arr w1 gA 37 (opC ⟨ok, oh, ofl, omo, on, oo, owh, op, op2, od⟩)) := Hid.mk (by rw [hgA]; exact TWO.a)
            have K1 := TWO.k
            have HK1 := Hid.mk K1
            have HNF : Hid (¬ fpM fp gm (.slice (some ⟨g, 0, none⟩) O.length c) gA ∧ ¬ fpM fp gm (.slice (some ⟨g, 0, none⟩) O.length c) gB ∧ gA ≠ gB ∧ gm ≠ gB ∧ gm ≠ gA) := Hid.mk ⟨fun a => by have := HH.out.flt a; omega, fun a => by have := HH.out.flt a; omega, by omega, fun e => by have := HH.out.flt (Or.inr (Or.inl rfl) : fpM fp gm (.slice (some ⟨g, 0, none⟩) O.length c) gm); omega, fun e => by have := HH.out.flt (Or.inr (Or.inl rfl) : fpM fp gm (.slice (some ⟨g, 0, none⟩) O.length c) gm); omega⟩
            rw [← hgB, ← hgA]
            clear hw1 TWO hgA hgB
            have a0 := HAA.out.cell 0
            have a1 := HAA.out.cell 1
            have a2 := HAA.out.cell 2
            have a3 := HAA.out.cell 3
            have a4 := HAA.out.cell 4
            have a5 := HAA.out.cell 5
            have a6 := HAA.out.cell 6
            have a7 := HAA.out.cell 7
            have a8 := HAA.out.cell 8
            have a9 := HAA.out.cell 9
            simp only [opC, List.getElem?_cons_zero, List.getElem?_cons_succ] at a0 a1 a2 a3 a4 a5 a6 a7 a8 a9
            obtain ⟨x0, x1⟩ := (HH.out.keep K1).cells
            obtain ⟨fz, r0, r1, r2, r3, r4, r5, r6⟩ := HROW.out _ K1
            go_wp2_with fail
            refine (HWT.out _ K1).mono ?_
            rintro e y1 ⟨rfl, hy1⟩
            subst hy1
            go_wp2_with fail
            refine (HKC.out _ K1).mono ?_
            rintro e y2 ⟨rfl, hy2⟩
            subst hy2
            have HQ1 := Hid.mk (Keep.refl y2)
            go_wp2_with fail
            refine (refuse_c 2 _).mono ?_
            rintro e y2 ⟨rfl, q2⟩
            obtain ⟨b0, b1, b2, b3, b4, b5, b6, b7, b8, z0, z1, z2, z3, z4, z5, z6, z7, z8⟩ := z9 (HAB.out.keep (HQ1.out.trans q2))
            have HE := Hid.mk (MP.fin (a := ⟨2, 0, [], sta0, []⟩) (v := (.slice none 0 0)) HH.out HK1.out (HH.out.keep (HK1.out.trans (HQ1.out.trans q2))) (Stp.keep (HQ1.out.trans q2)) HGB.out (OwnS.nil _ _ _ _ _) (fr9 (.int .i64 2) (.int .i64 0) (str []) (.int .i64 0) (.int .i64 0) (.int .i64 0) (.int .i64 0) (.int .i64 0) (.slice none 0 0)))
            have HAZ := Hid.mk (arr9 (HAB.out.keep (HQ1.out.trans q2)) (.int .i64 2) (.int .i64 0) (str []) (.int .i64 0) (.int .i64 0) (.int .i64 0) (.int .i64 0) (.int .i64 0) (.slice none 0 0))
            clear q2
            go_wp2_with fail
            refine bodyPost_ret (v := .agg (ansC ⟨2, 0, [], sta0, []⟩ (.slice none 0 0)).toArray) (results_cell_row1 rfl _ _ gB 34 _ (0, 0) _ rfl HAZ.out Try.underlying34 rfl s34) rfl ?_
            rw [HV.out]
            exact HE.out
          · by_cases ho2 : 1048576 < oo
            · rw [if_pos (Or.inr (Or.inl ho2))] at hR
              have HV := Hid.mk hR
              clear hR h si fl hfl X hd hw hv hSZ
              go_enter Try.func54, Try.ntmps54
              go_upto_region 1 with fail
              obtain ⟨w1, hw1⟩ : ∃ w1, w1 = (w.alloc (.cells (opC ⟨ok, oh, ofl, omo, on, oo, owh, op, op2, od⟩).toArray 37)).alloc (.cells #[.int .i64 0, .int .i64 0, str [], .int .i64 0, .int .i64 0, .int .i64 0, .int .i64 0, .int .i64 0, .slice none 0 0] 34) := ⟨_, rfl⟩
              rw [← hw1]
              have TWO : Two w w1 ⟨ok, oh, ofl, omo, on, oo, owh, op, op2, od⟩ := by rw [hw1]; exact Two.mk' w _
              obtain ⟨gA, hgA⟩ : ∃ g, g = w.heap.size := ⟨_, rfl⟩
              obtain ⟨gB, hgB⟩ : ∃ g, g = w.heap.size + 1 := ⟨_, rfl⟩
              have HGB : Hid (w.heap.size ≤ gB ∧ gB < w1.heap.size) := Hid.mk ⟨by omega, by rw [TWO.sz]; omega⟩
              have HAB : Hid (Arr w1 gB 34 zeroC) := Hid.mk (by rw [hgB]; exact TWO.b)
              have HAA : Hid (Arr w1 gA 37 (opC ⟨ok, oh, ofl, omo, on, oo, owh, op, op2, od⟩)) := Hid.mk (by rw [hgA]; exact TWO.a)
              have K1 := TWO.k
              have HK1 := Hid.mk K1
              have HNF : Hid (¬ fpM fp gm (.slice (some ⟨g, 0, none⟩) O.length c) gA ∧ ¬ fpM fp gm (.slice (some ⟨g, 0, none⟩) O.length c) gB ∧ gA ≠ gB ∧ gm ≠ gB ∧ gm ≠ gA) := Hid.mk ⟨fun a => by have := HH.out.flt a; omega, fun a => by have := HH.out.flt a; omega, by omega, fun e => by have := HH.out.flt (Or.inr (Or.inl rfl) : fpM fp gm (.slice (some ⟨g, 0, none⟩) O.length c) gm); omega, fun e => by have := HH.out.flt (Or.inr (Or.inl rfl) : fpM fp gm (.slice (some ⟨g, 0, none⟩) O.length c) gm); omega⟩
              rw [← hgB, ← hgA]
              clear hw1 TWO hgA hgB
              have a0 := HAA.out.cell 0
              have a1 := HAA.out.cell 1
              have a2 := HAA.out.cell 2
              have a3 := HAA.out.cell 3
              have a4 := HAA.out.cell 4
              have a5 := HAA.out.cell 5
              have a6 := HAA.out.cell 6
              have a7 := HAA.out.cell 7
              have a8 := HAA.out.cell 8
              have a9 := HAA.out.cell 9
              simp only [opC, List.getElem?_cons_zero, List.getElem?_cons_succ] at a0 a1 a2 a3 a4 a5 a6 a7 a8 a9
              obtain ⟨x0, x1⟩ := (HH.out.keep K1).cells
              obtain ⟨fz, r0, r1, r2, r3, r4, r5, r6⟩ := HROW.out _ K1
              go_wp2_with fail
              refine (HWT.out _ K1).mono ?_
              rintro e y1 ⟨rfl, hy1⟩
              subst hy1
              go_wp2_with fail
              refine (HKC.out _ K1).mono ?_
              rintro e y2 ⟨rfl, hy2⟩
              subst hy2
              have HQ1 := Hid.mk (Keep.refl y2)
              go_wp2_with fail
              refine (refuse_c 2 _).mono ?_
              rintro e y2 ⟨rfl, q2⟩
              obtain ⟨b0, b1, b2, b3, b4, b5, b6, b7, b8, z0, z1, z2, z3, z4, z5, z6, z7, z8⟩ := z9 (HAB.out.keep (HQ1.out.trans q2))
              have HE := Hid.mk (MP.fin (a := ⟨2, 0, [], sta0, []⟩) (v := (.slice none 0 0)) HH.out HK1.out (HH.out.keep (HK1.out.trans (HQ1.out.trans q2))) (Stp.keep (HQ1.out.trans q2)) HGB.out (OwnS.nil _ _ _ _ _) (fr9 (.int .i64 2) (.int .i64 0) (str []) (.int .i64 0) (.int .i64 0) (.int .i64 0) (.int .i64 0) (.int .i64 0) (.slice none 0 0)))
              have HAZ := Hid.mk (arr9 (HAB.out.keep (HQ1.out.trans q2)) (.int .i64 2) (.int .i64 0) (str []) (.int .i64 0) (.int .i64 0) (.int .i64 0) (.int .i64 0) (.int .i64 0) (.slice none 0 0))
              clear q2
              go_wp2_with fail
              refine bodyPost_ret (v := .agg (ansC ⟨2, 0, [], sta0, []⟩ (.slice none 0 0)).toArray) (results_cell_row1 rfl _ _ gB 34 _ (0, 0) _ rfl HAZ.out Try.underlying34 rfl s34) rfl ?_
              rw [HV.out]
              exact HE.out
            · obtain ⟨tz, hto⟩ : ∃ tz : Int, tz = (((at' s.T (hat s.hs O[i]).node).data.length : Nat) : Int) + oo := ⟨_, rfl⟩
              rw [← hto] at hR
              have hoA : -1048576 ≤ oo := by omega
              have hoB : oo ≤ 1048576 := by omega
              have HTO := Hid.mk hto
              have VS := fun W => sizeOK_c tz W
              cases hvs : vsB tz with
              | false =>
                rw [if_pos (Or.inr (Or.inr hvs))] at hR
                have HV := Hid.mk hR
                rw [hvs] at VS
                have HVS := Hid.mk VS
                clear hto hvs VS ho1 ho2
                clear hR h si fl hfl X hd hw hv hSZ
                go_enter Try.func54, Try.ntmps54
                go_upto_region 1 with fail
                obtain ⟨w1, hw1⟩ : ∃ w1, w1 = (w.alloc (.cells (opC ⟨ok, oh, ofl, omo, on, oo, owh, op, op2, od⟩).toArray 37)).alloc (.cells #[.int .i64 0, .int .i64 0, str [], .int .i64 0, .int .i64 0, .int .i64 0, .int .i64 0, .int .i64 0, .slice none 0 0] 34) := ⟨_, rfl⟩
                rw [← hw1]
                have TWO : Two w w1 ⟨ok, oh, ofl, omo, on, oo, owh, op, op2, od⟩ := by rw [hw1]; exact Two.mk' w _
                obtain ⟨gA, hgA⟩ : ∃ g, g = w.heap.size := ⟨_, rfl⟩
                obtain ⟨gB, hgB⟩ : ∃ g, g = w.heap.size + 1 := ⟨_, rfl⟩
                have HGB : Hid (w.heap.size ≤ gB ∧ gB < w1.heap.size) := Hid.mk ⟨by omega, by rw [TWO.sz]; omega⟩
                have HAB : Hid (Arr w1 gB 34 zeroC) := Hid.mk (by rw [hgB]; exact TWO.b)
                have HAA : Hid (Arr w1 gA 37 (opC ⟨ok, oh, ofl, omo, on, oo, owh, op, op2, od⟩)) := Hid.mk (by rw [hgA]; exact TWO.a)
                have K1 := TWO.k
                have HK1 := Hid.mk K1
                have HNF : Hid (¬ fpM fp gm (.slice (some ⟨g, 0, none⟩) O.length c) gA ∧ ¬ fpM fp gm (.slice (some ⟨g, 0, none⟩) O.length c) gB ∧ gA ≠ gB ∧ gm ≠ gB ∧ gm ≠ gA) := Hid.mk ⟨fun a => by have := HH.out.flt a; omega, fun a => by have := HH.out.flt a; omega, by omega, fun e => by have := HH.out.flt (Or.inr (Or.inl rfl) : fpM fp gm (.slice (some ⟨g, 0, none⟩) O.length c) gm); omega, fun e => by have := HH.out.flt (Or.inr (Or.inl rfl) : fpM fp gm (.slice (some ⟨g, 0, none⟩) O.length c) gm); omega⟩
                rw [← hgB, ← hgA]
                clear hw1 TWO hgA hgB
                have a0 := HAA.out.cell 0
                have a1 := HAA.out.cell 1
                have a2 := HAA.out.cell 2
                have a3 := HAA.out.cell 3
                have a4 := HAA.out.cell 4
                have a5 := HAA.out.cell 5
                have a6 := HAA.out.cell 6
                have a7 := HAA.out.cell 7
                have a8 := HAA.out.cell 8
                have a9 := HAA.out.cell 9
                simp only [opC, List.getElem?_cons_zero, List.getElem?_cons_succ] at a0 a1 a2 a3 a4 a5 a6 a7 a8 a9
                obtain ⟨x0, x1⟩ := (HH.out.keep K1).cells
                obtain ⟨fz, r0, r1, r2, r3, r4, r5, r6⟩ := HROW.out _ K1
                go_wp2_with fail
                refine (HWT.out _ K1).mono ?_
                rintro e y1 ⟨rfl, hy1⟩
                subst hy1
                go_wp2_with fail
                refine (HKC.out _ K1).mono ?_
                rintro e y2 ⟨rfl, hy2⟩
                subst hy2
                have HQ1 := Hid.mk (Keep.refl y2)
                obtain ⟨bn, cap, c0, t1, t2, nodes⟩ := HTR.out _ K1
                obtain ⟨dv, ev, -, -, -, -, -, m5, -, bs, -⟩ := nodes (hat s.hs O[i]).node hnl
                obtain ⟨da, dc, hdv, hd1, hd2, -⟩ := bs.form
                subst hdv
                unfold maxLen at t2 hd2
                have i3 : ((hat s.hs O[i]).node : Int) < s.T.length := by omega
                have i4 : (0 : Int) ≤ (hat s.hs O[i]).node := by omega
                clear nodes bs
                go_upto_region 17 with fail
                go_cut [6] from 84 to 105 (fun v6 wx => v6 = .int .i64 tz ∧ Keep y2 wx)
                case first =>
                  go_quiet (fail)
                  go_wp2_with fail
                  go_meet
                  case rel => exact ⟨by rw [HTO.out], (Keep.refl _).drewN _⟩
                case rest =>
                  obtain ⟨rfl, q3⟩ := hcut
                  obtain ⟨y3, hy3⟩ : ∃ y3, y3 = wc := ⟨_, rfl⟩
                  subst hy3
                  have HQ3 := Hid.mk q3
                  have a6' := q3.cell a6
                  go_wp2_with fail
                  refine (HVS.out _).mono ?_
                  rintro e y4 ⟨rfl, hy4⟩
                  subst hy4
                  go_wp2_with fail
                  refine (refuse_c 2 _).mono ?_
                  rintro e y2 ⟨rfl, q2⟩
                  obtain ⟨b0, b1, b2, b3, b4, b5, b6, b7, b8, z0, z1, z2, z3, z4, z5, z6, z7, z8⟩ := z9 (HAB.out.keep (HQ3.out.trans q2))
                  have HE := Hid.mk (MP.fin (a := ⟨2, 0, [], sta0, []⟩) (v := (.slice none 0 0)) HH.out HK1.out (HH.out.keep (HK1.out.trans (HQ3.out.trans q2))) (Stp.keep (HQ3.out.trans q2)) HGB.out (OwnS.nil _ _ _ _ _) (fr9 (.int .i64 2) (.int .i64 0) (str []) (.int .i64 0) (.int .i64 0) (.int .i64 0) (.int .i64 0) (.int .i64 0) (.slice none 0 0)))
                  have HAZ := Hid.mk (arr9 (HAB.out.keep (HQ3.out.trans q2)) (.int .i64 2) (.int .i64 0) (str []) (.int .i64 0) (.int .i64 0) (.int .i64 0) (.int .i64 0) (.int .i64 0) (.slice none 0 0))
                  clear q2
                  go_wp2_with fail
                  refine bodyPost_ret (v := .agg (ansC ⟨2, 0, [], sta0, []⟩ (.slice none 0 0)).toArray) (results_cell_row1 rfl _ _ gB 34 _ (0, 0) _ rfl HAZ.out Try.underlying34 rfl s34) rfl ?_
                  rw [HV.out]
                  exact HE.out
              | true =>
                rw [if_neg (by rw [hvs]; simp; omega)] at hR
                have hz : 0 ≤ tz ∧ tz ≤ 1048576 := by unfold vsB at hvs; simpa using hvs
                have HV := Hid.mk hR
                rw [hvs] at VS
                have HVS := Hid.mk VS
                obtain ⟨z, hz2⟩ : ∃ z : Nat, tz = z := ⟨tz.toNat, by omega⟩
                have HZ := Hid.mk hz2
                have HZ2 : Hid (tz.toNat = z) := Hid.mk (by omega)
                clear hto hvs VS ho1 ho2 hz2
                clear hR h si fl hfl X hd hw hv hSZ
                go_enter Try.func54, Try.ntmps54
                go_upto_region 1 with fail
                obtain ⟨w1, hw1⟩ : ∃ w1, w1 = (w.alloc (.cells (opC ⟨ok, oh, ofl, omo, on, oo, owh, op, op2, od⟩).toArray 37)).alloc (.cells #[.int .i64 0, .int .i64 0, str [], .int .i64 0, .int .i64 0, .int .i64 0, .int .i64 0, .int .i64 0, .slice none 0 0] 34) := ⟨_, rfl⟩
                rw [← hw1]
                have TWO : Two w w1 ⟨ok, oh, ofl, omo, on, oo, owh, op, op2, od⟩ := by rw [hw1]; exact Two.mk' w _
                obtain ⟨gA, hgA⟩ : ∃ g, g = w.heap.size := ⟨_, rfl⟩
                obtain ⟨gB, hgB⟩ : ∃ g, g = w.heap.size + 1 := ⟨_, rfl⟩
                have HGB : Hid (w.heap.size ≤ gB ∧ gB < w1.heap.size) := Hid.mk ⟨by omega, by rw [TWO.sz]; omega⟩
                have HAB : Hid (Arr w1 gB 34 zeroC) := Hid.mk (by rw [hgB]; exact TWO.b)
                have HAA : Hid (Arr w1 gA 37 (opC ⟨ok, oh, ofl, omo, on, oo, owh, op, op2, od⟩)) := Hid.mk (by rw [hgA]; exact TWO.a)
                have K1 := TWO.k
                have HK1 := Hid.mk K1
                have HNF : Hid (¬ fpM fp gm (.slice (some ⟨g, 0, none⟩) O.length c) gA ∧ ¬ fpM fp gm (.slice (some ⟨g, 0, none⟩) O.length c) gB ∧ gA ≠ gB ∧ gm ≠ gB ∧ gm ≠ gA) := Hid.mk ⟨fun a => by have := HH.out.flt a; omega, fun a => by have := HH.out.flt a; omega, by omega, fun e => by have := HH.out.flt (Or.inr (Or.inl rfl) : fpM fp gm (.slice (some ⟨g, 0, none⟩) O.length c) gm); omega, fun e => by have := HH.out.flt (Or.inr (Or.inl rfl) : fpM fp gm (.slice (some ⟨g, 0, none⟩) O.length c) gm); omega⟩
                rw [← hgB, ← hgA]
                clear hw1 TWO hgA hgB
                have a0 := HAA.out.cell 0
                have a1 := HAA.out.cell 1
                have a2 := HAA.out.cell 2
                have a3 := HAA.out.cell 3
                have a4 := HAA.out.cell 4
                have a5 := HAA.out.cell 5
                have a6 := HAA.out.cell 6
                have a7 := HAA.out.cell 7
                have a8 := HAA.out.cell 8
                have a9 := HAA.out.cell 9
                simp only [opC, List.getElem?_cons_zero, List.getElem?_cons_succ] at a0 a1 a2 a3 a4 a5 a6 a7 a8 a9
                obtain ⟨x0, x1⟩ := (HH.out.keep K1).cells
                obtain ⟨fz, r0, r1, r2, r3, r4, r5, r6⟩ := HROW.out _ K1
                go_wp2_with fail
                refine (HWT.out _ K1).mono ?_
                rintro e y1 ⟨rfl, hy1⟩
                subst hy1
                go_wp2_with fail
                refine (HKC.out _ K1).mono ?_
                rintro e y2 ⟨rfl, hy2⟩
                subst hy2
                have HQ1 := Hid.mk (Keep.refl y2)
                obtain ⟨bn, cap, c0, t1, t2, nodes⟩ := HTR.out _ K1
                obtain ⟨dv, ev, -, -, -, -, -, m5, -, bs, -⟩ := nodes (hat s.hs O[i]).node hnl
                obtain ⟨da, dc, hdv, hd1, hd2, -⟩ := bs.form
                subst hdv
                unfold maxLen at t2 hd2
                have i3 : ((hat s.hs O[i]).node : Int) < s.T.length := by omega
                have i4 : (0 : Int) ≤ (hat s.hs O[i]).node := by omega
                clear nodes bs
                go_upto_region 17 with fail
                go_cut [6] from 84 to 105 (fun v6 wx => v6 = .int .i64 tz ∧ Keep y2 wx)
                case first =>
                  go_quiet (fail)
                  go_wp2_with fail
                  go_meet
                  case rel => exact ⟨by rw [HTO.out], (Keep.refl _).drewN _⟩
                case rest =>
                  obtain ⟨rfl, q3⟩ := hcut
                  obtain ⟨y3, hy3⟩ : ∃ y3, y3 = wc := ⟨_, rfl⟩
                  subst hy3
                  have HQ3 := Hid.mk q3
                  have a6' := q3.cell a6
                  go_wp2_with fail
                  refine (HVS.out _).mono ?_
                  rintro e y4 ⟨rfl, hy4⟩
                  subst hy4
                  have x1' := HQ3.out.cell x1
                  have fz' := (HROW.out _ (HK1.out.trans HQ3.out)).1 (i * 7 + 5)
                  have r5' := HQ3.out.cell r5
                  rw [HZ.out]
                  obtain ⟨M1, s1⟩ := HOFF.out _ (HH.out.keep (HK1.out.trans HQ3.out)) z
                  have HM1 := Hid.mk M1
                  have HS1 := Hid.mk ((Stp.keep HQ3.out).trans s1)
                  have HAB1 := Hid.mk (s1.1.arr HNF.out.2.1 (HAB.out.keep HQ3.out))
                  clear M1 s1 HOFF HCUR HROW HTR
                  go_upto_region 21 with fail
                  generalize y4.setCell ⟨g, i * 7 + 5, none⟩ (.int .i64 (z : Nat)) = y5 at *
                  obtain ⟨b0, b1, b2, b3, b4, b5, b6, b7, b8, z0, z1, z2, z3, z4, z5, z6, z7, z8⟩ := z9 HAB1.out
                  have HE := Hid.mk (MP.fin (a := ⟨0, (z : Nat), [], sta0, []⟩) (v := (.slice none 0 0)) HH.out HK1.out HM1.out HS1.out HGB.out (OwnS.nil _ _ _ _ _) (fr9 (.int .i64 0) (.int .i64 (z : Nat)) (str []) (.int .i64 0) (.int .i64 0) (.int .i64 0) (.int .i64 0) (.int .i64 0) (.slice none 0 0)))
                  have HAZ := Hid.mk (arr9 HAB1.out (.int .i64 0) (.int .i64 (z : Nat)) (str []) (.int .i64 0) (.int .i64 0) (.int .i64 0) (.int .i64 0) (.int .i64 0) (.slice none 0 0))
                  go_wp2_with fail
                  refine bodyPost_ret (v := .agg (ansC ⟨0, (z : Nat), [], sta0, []⟩ (.slice none 0 0)).toArray) (results_cell_row1 rfl _ _ gB 34 _ (0, 0) _ rfl HAZ.out Try.underlying34 rfl s34) rfl ?_
                  rw [HV.out, HZ2.out, HZ.out]
                  exact HE.out
end Go.Proofs.Qxb6500767a
