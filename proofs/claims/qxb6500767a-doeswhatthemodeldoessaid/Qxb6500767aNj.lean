/- unionvfsm: read. -/
import Derived.Test.Qxb6500767aNe
namespace Go.Proofs.Qxb6500767a
open Go.RowKit Go.Qm
set_option linter.unusedVariables false
set_option linter.unusedSimpArgs false
attribute [local go_sem ↓] Go.wp_at_zero Go.wp_at_succ
set_option maxRecDepth 6000 in
set_option maxHeartbeats 8000000 in
theorem mRead_c {B gm gt k : Nat} {fp : Nat → Prop} {w : World} {s : Stt} {O : List Nat} {ov : Value} (o : OpV) (h : MW B fp w gm gt s O ov) (si : SI k s.u s.hs s.T) (hk : k ≤ 70000) (hp : o.path.length ≤ 100000) (hp2 : o.path2.length ≤ 100000) (hdt : o.data.length ≤ 100000) (fl : FL s.hs) :
    Calls Try.prog 52 #[.pointer (some ⟨gm, 0, none⟩), .agg (opC o).toArray, .int .i64 0, .bool true] w fun e w' => MP B fp w gm gt ov ⟨(rdF s.u s.hs s.T o.h o.n).2.2, ((rdF s.u s.hs s.T o.h o.n).2.1.length : Nat), (rdF s.u s.hs s.T o.h o.n).2.1, sta0, []⟩ ⟨s.u, (rdF s.u s.hs s.T o.h o.n).1, s.T⟩ e w' := by
  have HH := Hid.mk h
  obtain ⟨ok, oh, ofl, omo, on, oo, owh, op, op2, od⟩ := o
  simp only at hp hp2 hdt ⊢
  obtain ⟨R, hR⟩ : ∃ R, R = rdF s.u s.hs s.T oh on := ⟨_, rfl⟩
  rw [← hR]
  unfold rdF at hR
  cases ho : opn s.u oh with
  | false =>
    have hg : getOK s.u s.hs oh 1 = false := by rw [get1 fl, ho]; rfl
    rw [if_pos hg] at hR
    have HV := Hid.mk hR
    have WF := Hid.mk (fun W (kk : Keep w W) => where_f (h.keep kk) ho)
    clear hR hg ho h
    go_enter Try.func52, Try.ntmps52
    go_upto_region 1 with fail
    obtain ⟨w1, hw1⟩ : ∃ w1, w1 = (w.alloc (.cells (opC ⟨ok, oh, ofl, omo, on, oo, owh, op, op2, od⟩).toArray 37)).alloc (.cells #[.int .i64 0, .int .i64 0, str [], .int .i64 0, .int .i64 0, .int .i64 0, .int .i64 0, .int .i64 0, .slice none 0 0] 34) := ⟨_, rfl⟩
    rw [← hw1]
    have TWO : Two w w1 ⟨ok, oh, ofl, omo, on, oo, owh, op, op2, od⟩ := by rw [hw1]; exact Two.mk' w _
    obtain ⟨gA, hgA⟩ : ∃ g, g = w.heap.size := ⟨_, rfl⟩
    obtain ⟨gB, hgB⟩ : ∃ g, g = w.heap.size + 1 := ⟨_, rfl⟩
    have HGB : Hid (w.heap.size ≤ gB ∧ gB < w1.heap.size) := Hid.mk ⟨by omega, by rw [TWO.sz]; omega⟩
    have HAB : Hid (Arr w1 gB 34 zeroC) := Hid.mk (by rw [hgB]; exact TWO.b)
    have HAA : Hid (Arr w1 gA 37 (opC ⟨ok, oh, ofl, omo, on, oo, owh, op, op2, od⟩)) := Hid.mk (by rw [hgA]; exact TWO.a)
    have K1 := TWO.k
    have HK1 := Hid.mk K1
    have HNF : Hid (¬ fpM fp gm ov gA ∧ ¬ fpM fp gm ov gB ∧ gA ≠ gB ∧ gm ≠ gB ∧ gm ≠ gA) := Hid.mk ⟨fun a => by have := HH.out.flt a; omega, fun a => by have := HH.out.flt a; omega, by omega, fun e => by have := HH.out.flt (Or.inr (Or.inl rfl) : fpM fp gm ov gm); omega, fun e => by have := HH.out.flt (Or.inr (Or.inl rfl) : fpM fp gm ov gm); omega⟩
    rw [← hgB, ← hgA]
    clear hw1 TWO hgA hgB
    have a0 := HAA.out.cell 0
    have a1 := HAA.out.cell 1
    have a2 := HAA.out.cell 2
    have a3 := HAA.out.cell 3
    have a4 := HAA.out.cell 4
    have a5 := HAA.out.cell 5
    have a6 := HAA.out.cell 6
    have a7 := HAA.out.cell 7
    have a8 := HAA.out.cell 8
    have a9 := HAA.out.cell 9
    simp only [opC, List.getElem?_cons_zero, List.getElem?_cons_succ] at a0 a1 a2 a3 a4 a5 a6 a7 a8 a9
    obtain ⟨x0, x1⟩ := (HH.out.keep K1).cells
    go_wp2_with fail
    refine (WF.out _ K1).mono ?_
    rintro e y1 ⟨rfl, hy1⟩
    subst hy1
    have HQ1 := Hid.mk (Keep.refl y1)
    go_wp2_with fail
    refine (refuse_c 1 _).mono ?_
    rintro e y2 ⟨rfl, q2⟩
    obtain ⟨b0, b1, b2, b3, b4, b5, b6, b7, b8, z0, z1, z2, z3, z4, z5, z6, z7, z8⟩ := z9 (HAB.out.keep (HQ1.out.trans q2))
    have HE := Hid.mk (MP.fin (a := ⟨1, 0, [], sta0, []⟩) (v := (.slice none 0 0)) HH.out HK1.out (HH.out.keep (HK1.out.trans (HQ1.out.trans q2))) (Stp.keep (HQ1.out.trans q2)) HGB.out (OwnS.nil _ _ _ _ _) (fr9 (.int .i64 1) (.int .i64 0) (str []) (.int .i64 0) (.int .i64 0) (.int .i64 0) (.int .i64 0) (.int .i64 0) (.slice none 0 0)))
    have HAZ := Hid.mk (arr9 (HAB.out.keep (HQ1.out.trans q2)) (.int .i64 1) (.int .i64 0) (str []) (.int .i64 0) (.int .i64 0) (.int .i64 0) (.int .i64 0) (.int .i64 0) (.slice none 0 0))
    clear q2
    go_wp2_with fail
    refine bodyPost_ret (v := .agg (ansC ⟨1, 0, [], sta0, []⟩ (.slice none 0 0)).toArray) (results_cell_row1 rfl _ _ gB 34 _ (0, 0) _ rfl HAZ.out Try.underlying34 rfl s34) rfl ?_
    rw [HV.out]
    exact HE.out
  | true =>
    have hg : getOK s.u s.hs oh 1 = bt (hat s.hs oh.toNat).flags 1 := by rw [get1 fl, ho]; rfl
    rw [hg] at hR
    clear hg
    obtain ⟨i, hi, hox, hox2⟩ := h.rel.idx ho
    have X := HX.of h.rel si hi
    have hfl := fl O[i]
    rw [hox2] at hR
    obtain ⟨g, c, hov, l1, l2, -⟩ := h.row hi
    subst hov
    have HWT : Hid (∀ W, Keep w W → Calls Try.prog 55 #[.pointer (some ⟨gm, 0, none⟩), .int .i64 oh] W fun e w' => e = .returned (.int .i64 i) ∧ w' = W) := Hid.mk (fun W (kk : Keep w W) => by rw [hox]; exact where_t (h.keep kk) hi)
    clear hox2 ho hox
    have HROW := Hid.mk (fun W (kk : Keep w W) => (h.keep kk).rowAt hi)
    have HTR := Hid.mk (fun W (kk : Keep w W) => (h.keep kk).tree.tr)
    have HKC := Hid.mk (fun W (kk : Keep w W) => kindOf_c (h.keep kk) X.nl)
    have HOFF := Hid.mk (fun W (M : MW B fp W gm gt s O (.slice (some ⟨g, 0, none⟩) O.length c)) z => M.setOff hi z)
    have HCUR := Hid.mk (fun W (M : MW B fp W gm gt s O (.slice (some ⟨g, 0, none⟩) O.length c)) z => M.setCur hi z)
    have i1 : (i : Int) < O.length := by omega
    have i2 : (0 : Int) ≤ i := by omega
    unfold maxLen at l2
    have hD := si.t.data (hat s.hs O[i]).node
    cases hbt : bt (hat s.hs O[i]).flags 1 with
    | false =>
      rw [if_pos hbt] at hR
      have HV := Hid.mk hR
      clear hR h si fl hfl X
      go_enter Try.func52, Try.ntmps52
      go_upto_region 1 with fail
      obtain ⟨w1, hw1⟩ : ∃ w1, w1 = (w.alloc (.cells (opC ⟨ok, oh, ofl, omo, on, oo, owh, op, op2, od⟩).toArray 37)).alloc (.cells #[.int .i64 0, .int .i64 0, str [], .int .i64 0, .int .i64 0, .int .i64 0, .int .i64 0, .int .i64 0, .slice none 0 0] 34) := ⟨_, rfl⟩
      rw [← hw1]
      have TWO : Two w w1 ⟨ok, oh, ofl, omo, on, oo, owh, op, op2, od⟩ := by rw [hw1]; exact Two.mk' w _
      obtain ⟨gA, hgA⟩ : ∃ g, g = w.heap.size := ⟨_, rfl⟩
      obtain ⟨gB, hgB⟩ : ∃ g, g = w.heap.size + 1 := ⟨_, rfl⟩
      have HGB : Hid (w.heap.size ≤ gB ∧ gB < w1.heap.size) := Hid.mk ⟨by omega, by rw [TWO.sz]; omega⟩
      have HAB : Hid (Arr w1 gB 34 zeroC) := Hid.mk (by rw [hgB]; exact TWO.b)
      have HAA : Hid (Arr w1 gA 37 (opC ⟨ok, oh, ofl, omo, on, oo, owh, op, op2, od⟩)) := Hid.mk (by rw [hgA]; exact TWO.a)
      have K1 := TWO.k
      have HK1 := Hid.mk K1
      have HNF : Hid (¬ fpM fp gm (.slice (some ⟨g, 0, none⟩) O.length c) gA ∧ ¬ fpM fp gm (.slice (some ⟨g, 0, none⟩) O.length c) gB ∧ gA ≠ gB ∧ gm ≠ gB ∧ gm ≠ gA) := Hid.mk ⟨fun a => by have := HH.out.flt a; omega, fun a => by have := HH.out.flt a; omega, by omega, fun e => by have := HH.out.flt (Or.inr (Or.inl rfl) : fpM fp gm (.slice (some ⟨g, 0, none⟩) O.length c) gm); omega, fun e => by have := HH.out.flt (Or.inr (Or.inl rfl) : fpM fp gm (.slice (some ⟨g, 0, none⟩) O.length c) gm); omega⟩
      rw [← hgB, ← hgA]
      clear hw1 TWO hgA hgB
      have a0 := HAA.out.cell 0
      have a1 := HAA.out.cell 1
      have a2 := HAA.out.cell 2
      have a3 := HAA.out.cell 3
      have a4 := HAA.out.cell 4
      have a5 := HAA.out.cell 5
      have a6 := HAA.out.cell 6
      have a7 := HAA.out.cell 7
      have a8 := HAA.out.cell 8
      have a9 := HAA.out.cell 9
      simp only [opC, List.getElem?_cons_zero, List.getElem?_cons_succ] at a0 a1 a2 a3 a4 a5 a6 a7 a8 a9
      obtain ⟨x0, x1⟩ := (HH.out.keep K1).cells
      obtain ⟨fz, r0, r1, r2, r3, r4, r5, r6⟩ := HROW.out _ K1
      go_wp2_with fail
      refine (HWT.out _ K1).mono ?_
      rintro e y1 ⟨rfl, hy1⟩
      subst hy1
      rw [hbt] at r2
      have HQ1 := Hid.mk (Keep.refl y1)
      go_wp2_with fail
      refine (refuse_c 1 _).mono ?_
      rintro e y2 ⟨rfl, q2⟩
      obtain ⟨b0, b1, b2, b3, b4, b5, b6, b7, b8, z0, z1, z2, z3, z4, z5, z6, z7, z8⟩ := z9 (HAB.out.keep (HQ1.out.trans q2))
      have HE := Hid.mk (MP.fin (a := ⟨1, 0, [], sta0, []⟩) (v := (.slice none 0 0)) HH.out HK1.out (HH.out.keep (HK1.out.trans (HQ1.out.trans q2))) (Stp.keep (HQ1.out.trans q2)) HGB.out (OwnS.nil _ _ _ _ _) (fr9 (.int .i64 1) (.int .i64 0) (str []) (.int .i64 0) (.int .i64 0) (.int .i64 0) (.int .i64 0) (.int .i64 0) (.slice none 0 0)))
      have HAZ := Hid.mk (arr9 (HAB.out.keep (HQ1.out.trans q2)) (.int .i64 1) (.int .i64 0) (str []) (.int .i64 0) (.int .i64 0) (.int .i64 0) (.int .i64 0) (.int .i64 0) (.slice none 0 0))
      clear q2
      go_wp2_with fail
      refine bodyPost_ret (v := .agg (ansC ⟨1, 0, [], sta0, []⟩ (.slice none 0 0)).toArray) (results_cell_row1 rfl _ _ gB 34 _ (0, 0) _ rfl HAZ.out Try.underlying34 rfl s34) rfl ?_
      rw [HV.out]
      exact HE.out
    | true =>
      rw [if_neg (by rw [hbt]; decide)] at hR
      by_cases hd : (at' s.T (hat s.hs O[i]).node).kind = 2
      · rw [if_pos (by rw [X.dir]; exact decide_eq_true hd)] at hR
        rw [hd] at HKC
        have HV := Hid.mk hR
        clear hR h si fl hfl X
        go_enter Try.func52, Try.ntmps52
        go_upto_region 1 with fail
        obtain ⟨w1, hw1⟩ : ∃ w1, w1 = (w.alloc (.cells (opC ⟨ok, oh, ofl, omo, on, oo, owh, op, op2, od⟩).toArray 37)).alloc (.cells #[.int .i64 0, .int .i64 0, str [], .int .i64 0, .int .i64 0, .int .i64 0, .int .i64 0, .int .i64 0, .slice none 0 0] 34) := ⟨_, rfl⟩
        rw [← hw1]
        have TWO : Two w w1 ⟨ok, oh, ofl, omo, on, oo, owh, op, op2, od⟩ := by rw [hw1]; exact Two.mk' w _
        obtain ⟨gA, hgA⟩ : ∃ g, g = w.heap.size := ⟨_, rfl⟩
        obtain ⟨gB, hgB⟩ : ∃ g, g = w.heap.size + 1 := ⟨_, rfl⟩
        have HGB : Hid (w.heap.size ≤ gB ∧ gB < w1.heap.size) := Hid.mk ⟨by omega, by rw [TWO.sz]; omega⟩
        have HAB : Hid (Arr w1 gB 34 zeroC) := Hid.mk (by rw [hgB]; exact TWO.b)
        have HAA : Hid (Arr w1 gA 37 (opC ⟨ok, oh, ofl, omo, on, oo, owh, op, op2, od⟩)) := Hid.mk (by rw [hgA]; exact TWO.a)
        have K1 := TWO.k
        have HK1 := Hid.mk K1
        have HNF : Hid (¬ fpM fp gm (.slice (some ⟨g, 0, none⟩) O.length c) gA ∧ ¬ fpM fp gm (.slice (some ⟨g, 0, none⟩) O.length c) gB ∧ gA ≠ gB ∧ gm ≠ gB ∧ gm ≠ gA) := Hid.mk ⟨fun a => by have := HH.out.flt a; omega, fun a => by have := HH.out.flt a; omega, by omega, fun e => by have := HH.out.flt (Or.inr (Or.inl rfl) : fpM fp gm (.slice (some ⟨g, 0, none⟩) O.length c) gm); omega, fun e => by have := HH.out.flt (Or.inr (Or.inl rfl) : fpM fp gm (.slice (some ⟨g, 0, none⟩) O.length c) gm); omega⟩
        rw [← hgB, ← hgA]
        clear hw1 TWO hgA hgB
        have a0 := HAA.out.cell 0
        have a1 := HAA.out.cell 1
        have a2 := HAA.out.cell 2
        have a3 := HAA.out.cell 3
        have a4 := HAA.out.cell 4
        have a5 := HAA.out.cell 5
        have a6 := HAA.out.cell 6
        have a7 := HAA.out.cell 7
        have a8 := HAA.out.cell 8
        have a9 := HAA.out.cell 9
        simp only [opC, List.getElem?_cons_zero, List.getElem?_cons_succ] at a0 a1 a2 a3 a4 a5 a6 a7 a8 a9
        obtain ⟨x0, x1⟩ := (HH.out.keep K1).cells
        obtain ⟨fz, r0, r1, r2, r3, r4, r5, r6⟩ := HROW.out _ K1
        go_wp2_with fail
        refine (HWT.out _ K1).mono ?_
        rintro e y1 ⟨rfl, hy1⟩
        subst hy1
        rw [hbt] at r2
        go_wp2_with fail
        refine (HKC.out _ K1).mono ?_
        rintro e y2 ⟨rfl, hy2⟩
        subst hy2
        have HQ1 := Hid.mk (Keep.refl y2)
        go_wp2_with fail
        refine (refuse_c 8 _).mono ?_
        rintro e y2 ⟨rfl, q2⟩
        obtain ⟨b0, b1, b2, b3, b4, b5, b6, b7, b8, z0, z1, z2, z3, z4, z5, z6, z7, z8⟩ := z9 (HAB.out.keep (HQ1.out.trans q2))
        have HE := Hid.mk (MP.fin (a := ⟨8, 0, [], sta0, []⟩) (v := (.slice none 0 0)) HH.out HK1.out (HH.out.keep (HK1.out.trans (HQ1.out.trans q2))) (Stp.keep (HQ1.out.trans q2)) HGB.out (OwnS.nil _ _ _ _ _) (fr9 (.int .i64 8) (.int .i64 0) (str []) (.int .i64 0) (.int .i64 0) (.int .i64 0) (.int .i64 0) (.int .i64 0) (.slice none 0 0)))
        have HAZ := Hid.mk (arr9 (HAB.out.keep (HQ1.out.trans q2)) (.int .i64 8) (.int .i64 0) (str []) (.int .i64 0) (.int .i64 0) (.int .i64 0) (.int .i64 0) (.int .i64 0) (.slice none 0 0))
        clear q2
        go_wp2_with fail
        refine bodyPost_ret (v := .agg (ansC ⟨8, 0, [], sta0, []⟩ (.slice none 0 0)).toArray) (results_cell_row1 rfl _ _ gB 34 _ (0, 0) _ rfl HAZ.out Try.underlying34 rfl s34) rfl ?_
        rw [HV.out]
        exact HE.out
      · rw [if_neg (by rw [X.dir]; simpa using hd)] at hR
        have n2 : (((at' s.T (hat s.hs O[i]).node).kind : Int) == 2) = false := by simp; omega
        have hof : ((hat s.hs O[i]).off : Int) ≤ 1048576 := by have := X.off; omega
        have hof0 : (0 : Int) ≤ ((hat s.hs O[i]).off : Int) := by omega
        have hnl := X.nl
        by_cases hn : on < 0
        · rw [if_pos hn] at hR
          have HV := Hid.mk hR
          clear hR h si fl hfl X
          go_enter Try.func52, Try.ntmps52
          go_upto_region 1 with fail
          obtain ⟨w1, hw1⟩ : ∃ w1, w1 = (w.alloc (.cells (opC ⟨ok, oh, ofl, omo, on, oo, owh, op, op2, od⟩).toArray 37)).alloc (.cells #[.int .i64 0, .int .i64 0, str [], .int .i64 0, .int .i64 0, .int .i64 0, .int .i64 0, .int .i64 0, .slice none 0 0] 34) := ⟨_, rfl⟩
          rw [← hw1]
          have TWO : Two w w1 ⟨ok, oh, ofl, omo, on, oo, owh, op, op2, od⟩ := by rw [hw1]; exact Two.mk' w _
          obtain ⟨gA, hgA⟩ : ∃ g, g = w.heap.size := ⟨_, rfl⟩
          obtain ⟨gB, hgB⟩ : ∃ g, g = w.heap.size + 1 := ⟨_, rfl⟩
          have HGB : Hid (w.heap.size ≤ gB ∧ gB < w1.heap.size) := Hid.mk ⟨by omega, by rw [TWO.sz]; omega⟩
          have HAB : Hid (Arr w1 gB 34 zeroC) := Hid.mk (by rw [hgB]; exact TWO.b)
          have HAA : Hid (Arr w1 gA 37 (opC ⟨ok, oh, ofl, omo, on, oo, owh, op, op2, od⟩)) := Hid.mk (by rw [hgA]; exact TWO.a)
          have K1 := TWO.k
          have HK1 := Hid.mk K1
          have HNF : Hid (¬ fpM fp gm (.slice (some ⟨g, 0, none⟩) O.length c) gA ∧ ¬ fpM fp gm (.slice (some ⟨g, 0, none⟩) O.length c) gB ∧ gA ≠ gB ∧ gm ≠ gB ∧ gm ≠ gA) := Hid.mk ⟨fun a => by have := HH.out.flt a; omega, fun a => by have := HH.out.flt a; omega, by omega, fun e => by have := HH.out.flt (Or.inr (Or.inl rfl) : fpM fp gm (.slice (some ⟨g, 0, none⟩) O.length c) gm); omega, fun e => by have := HH.out.flt (Or.inr (Or.inl rfl) : fpM fp gm (.slice (some ⟨g, 0, none⟩) O.length c) gm); omega⟩
          rw [← hgB, ← hgA]
          clear hw1 TWO hgA hgB
          have a0 := HAA.out.cell 0
          have a1 := HAA.out.cell 1
          have a2 := HAA.out.cell 2
          have a3 := HAA.out.cell 3
          have a4 := HAA.out.cell 4
          have a5 := HAA.out.cell 5
          have a6 := HAA.out.cell 6
          have a7 := HAA.out.cell 7
          have a8 := HAA.out.cell 8
          have a9 := HAA.out.cell 9
          simp only [opC, List.getElem?_cons_zero, List.getElem?_cons_succ] at a0 a1 a2 a3 a4 a5 a6 a7 a8 a9
          obtain ⟨x0, x1⟩ := (HH.out.keep K1).cells
          obtain ⟨fz, r0, r1, r2, r3, r4, r5, r6⟩ := HROW.out _ K1
          go_wp2_with fail
          refine (HWT.out _ K1).mono ?_
          rintro e y1 ⟨rfl, hy1⟩
          subst hy1
          rw [hbt] at r2
          go_wp2_with fail
          refine (HKC.out _ K1).mono ?_
          rintro e y2 ⟨rfl, hy2⟩
          subst hy2
          have HQ1 := Hid.mk (Keep.refl y2)
          go_wp2_with fail
          refine (refuse_c 2 _).mono ?_
          rintro e y2 ⟨rfl, q2⟩
          obtain ⟨b0, b1, b2, b3, b4, b5, b6, b7, b8, z0, z1, z2, z3, z4, z5, z6, z7, z8⟩ := z9 (HAB.out.keep (HQ1.out.trans q2))
          have HE := Hid.mk (MP.fin (a := ⟨2, 0, [], sta0, []⟩) (v := (.slice none 0 0)) HH.out HK1.out (HH.out.keep (HK1.out.trans (HQ1.out.trans q2))) (Stp.keep (HQ1.out.trans q2)) HGB.out (OwnS.nil _ _ _ _ _) (fr9 (.int .i64 2) (.int .i64 0) (str []) (.int .i64 0) (.int .i64 0) (.int .i64 0) (.int .i64 0) (.int .i64 0) (.slice none 0 0)))
          have HAZ := Hid.mk (arr9 (HAB.out.keep (HQ1.out.trans q2)) (.int .i64 2) (.int .i64 0) (str []) (.int .i64 0) (.int .i64 0) (.int .i64 0) (.int .i64 0) (.int .i64 0) (.slice none 0 0))
          clear q2
          go_wp2_with fail
          refine bodyPost_ret (v := .agg (ansC ⟨2, 0, [], sta0, []⟩ (.slice none 0 0)).toArray) (results_cell_row1 rfl _ _ gB 34 _ (0, 0) _ rfl HAZ.out Try.underlying34 rfl s34) rfl ?_
          rw [HV.out]
          exact HE.out
        · have hn1 : 0 ≤ on := by omega
          rw [if_neg hn] at hR
          have hvs : vsB ((hat s.hs O[i]).off : Int) = true := by unfold vsB; rw [decide_eq_true hof0, decide_eq_true hof]; rfl
          have VS := fun W => sizeOK_c ((hat s.hs O[i]).off : Int) W
          rw [hvs] at VS
          have HVS := Hid.mk VS
          have HRC := Hid.mk (fun W (kk : Keep w W) => readAt_c gt (hat s.hs O[i]).node (hat s.hs O[i]).off on s.T W (h.keep kk).tree.tr hnl hn1 (by omega) (by omega))
          have HRL : (readF (at' s.T (hat s.hs O[i]).node).data (hat s.hs O[i]).off on.toNat).length ≤ 32768 := by unfold readF; rw [List.length_take, List.length_drop]; omega
          generalize readF (at' s.T (hat s.hs O[i]).node).data (hat s.hs O[i]).off on.toNat = RD at *
          have hrl : (RD.length : Int) ≤ 32768 := by omega
          have HV := Hid.mk hR
          clear VS hvs hn HRL
          clear hR h si fl hfl X
          go_enter Try.func52, Try.ntmps52
          go_upto_region 1 with fail
          obtain ⟨w1, hw1⟩ : ∃ w1, w1 = (w.alloc (.cells (opC ⟨ok, oh, ofl, omo, on, oo, owh, op, op2, od⟩).toArray 37)).alloc (.cells #[.int .i64 0, .int .i64 0, str [], .int .i64 0, .int .i64 0, .int .i64 0, .int .i64 0, .int .i64 0, .slice none 0 0] 34) := ⟨_, rfl⟩
          rw [← hw1]
          have TWO : Two w w1 ⟨ok, oh, ofl, omo, on, oo, owh, op, op2, od⟩ := by rw [hw1]; exact Two.mk' w _
          obtain ⟨gA, hgA⟩ : ∃ g, g = w.heap.size := ⟨_, rfl⟩
          obtain ⟨gB, hgB⟩ : ∃ g, g = w.heap.size + 1 := ⟨_, rfl⟩
          have HGB : Hid (w.heap.size ≤ gB ∧ gB < w1.heap.size) := Hid.mk ⟨by omega, by rw [TWO.sz]; omega⟩
          have HAB : Hid (Arr w1 gB 34 zeroC) := Hid.mk (by rw [hgB]; exact TWO.b)
          have HAA : Hid (Arr w1 gA 37 (opC ⟨ok, oh, ofl, omo, on, oo, owh, op, op2, od⟩)) := Hid.mk (by rw [hgA]; exact TWO.a)
          have K1 := TWO.k
          have HK1 := Hid.mk K1
          have HNF : Hid (¬ fpM fp gm (.slice (some ⟨g, 0, none⟩) O.length c) gA ∧ ¬ fpM fp gm (.slice (some ⟨g, 0, none⟩) O.length c) gB ∧ gA ≠ gB ∧ gm ≠ gB ∧ gm ≠ gA) := Hid.mk ⟨fun a => by have := HH.out.flt a; omega, fun a => by have := HH.out.flt a; omega, by omega, fun e => by have := HH.out.flt (Or.inr (Or.inl rfl) : fpM fp gm (.slice (some ⟨g, 0, none⟩) O.length c) gm); omega, fun e => by have := HH.out.flt (Or.inr (Or.inl rfl) : fpM fp gm (.slice (some ⟨g, 0, none⟩) O.length c) gm); omega⟩
          rw [← hgB, ← hgA]
          clear hw1 TWO hgA hgB
          have a0 := HAA.out.cell 0
          have a1 := HAA.out.cell 1
          have a2 := HAA.out.cell 2
          have a3 := HAA.out.cell 3
          have a4 := HAA.out.cell 4
          have a5 := HAA.out.cell 5
          have a6 := HAA.out.cell 6
          have a7 := HAA.out.cell 7
          have a8 := HAA.out.cell 8
          have a9 := HAA.out.cell 9
          simp only [opC, List.getElem?_cons_zero, List.getElem?_cons_succ] at a0 a1 a2 a3 a4 a5 a6 a7 a8 a9
          obtain ⟨x0, x1⟩ := (HH.out.keep K1).cells
          obtain ⟨fz, r0, r1, r2, r3, r4, r5, r6⟩ := HROW.out _ K1
          go_wp2_with fail
          refine (HWT.out _ K1).mono ?_
          rintro e y1 ⟨rfl, hy1⟩
          subst hy1
          rw [hbt] at r2
          go_wp2_with fail
          refine (HKC.out _ K1).mono ?_
          rintro e y2 ⟨rfl, hy2⟩
          subst hy2
          have HQ1 := Hid.mk (Keep.refl y2)
          go_wp2_with fail
          refine (HVS.out _).mono ?_
          rintro e y3 ⟨rfl, hy3⟩
          subst hy3
          go_upto_region 10 with fail
          go_cut [10] from 59 to 74 (fun v10 wx => v10 = str RD ∧ Keep y3 wx)
          case first =>
            have HSK : Hid (∀ W : World, Keep y3 W → W.cell? ⟨gm, 0, none⟩ = some (.pointer (some ⟨gt, 0, none⟩)) ∧ W.cell? ⟨gm, 1, none⟩ = some (.slice (some ⟨g, 0, none⟩) O.length c) ∧ W.cell? ⟨g, i * 7 + 1, none⟩ = some (.int .i64 ((hat s.hs O[i]).node : Nat)) ∧ W.cell? ⟨gA, 4, none⟩ = some (.int .i64 on)) := Hid.mk (fun W kk => ⟨kk.cell x0, kk.cell x1, kk.cell r1, kk.cell a4⟩)
            go_region_held3 (fun W : World => W.cell? ⟨gm, 0, none⟩ = some (.pointer (some ⟨gt, 0, none⟩)) ∧ W.cell? ⟨gm, 1, none⟩ = some (.slice (some ⟨g, 0, none⟩) O.length c) ∧ W.cell? ⟨g, i * 7 + 1, none⟩ = some (.int .i64 ((hat s.hs O[i]).node : Nat)) ∧ W.cell? ⟨gA, 4, none⟩ = some (.int .i64 on))
              (with_reducible first | assumption | exact ⟨x0, x1, r1, a4⟩ | exact HSK.out _ (Keep.refl y3).drew | exact HSK.out _ Q2)
              ((go_at_call 77; refine (HRC.out _ (HK1.out.trans (Keep.refl y3).drew)).mono ?_; rintro x y ⟨rfl, q2⟩; have Q2 := (Keep.refl y3).drew.trans q2))
            go_wp2_with fail
            go_meet
            case rel => exact ⟨rfl, Q2⟩
          case rest =>
            obtain ⟨rfl, q4⟩ := hcut
            obtain ⟨y4, hy4⟩ : ∃ y4, y4 = wc := ⟨_, rfl⟩
            subst hy4
            have HQ4 := Hid.mk q4
            have x1' := q4.cell x1
            have r5' := q4.cell r5
            have fz' := (HROW.out _ (HK1.out.trans q4)).1 (i * 7 + 5)
            obtain ⟨M1, s1⟩ := HOFF.out _ (HH.out.keep (HK1.out.trans q4)) ((hat s.hs O[i]).off + RD.length)
            have HM1 := Hid.mk M1
            have HS1 := Hid.mk ((Stp.keep q4).trans s1)
            have HAB1 := Hid.mk (s1.1.arr HNF.out.2.1 (HAB.out.keep q4))
            clear M1 s1 HOFF HCUR HROW HTR q4
            go_upto_region 13 with fail
            rw [show ((hat s.hs O[i]).off : Int) + (RD.length : Int) = (((hat s.hs O[i]).off + RD.length : Nat) : Int) by omega]
            generalize y4.setCell ⟨g, i * 7 + 5, none⟩ (.int .i64 (((hat s.hs O[i]).off + RD.length : Nat) : Int)) = y5 at *
            obtain ⟨b0, b1, b2, b3, b4, b5, b6, b7, b8, z0, z1, z2, z3, z4, z5, z6, z7, z8⟩ := z9 HAB1.out
            have HE := Hid.mk (MP.fin (a := ⟨0, (RD.length : Nat), RD, sta0, []⟩) (v := (.slice none 0 0)) HH.out HK1.out HM1.out HS1.out HGB.out (OwnS.nil _ _ _ _ _) (fr9 (.int .i64 0) (.int .i64 (RD.length : Nat)) (str RD) (.int .i64 0) (.int .i64 0) (.int .i64 0) (.int .i64 0) (.int .i64 0) (.slice none 0 0)))
            have HAZ := Hid.mk (arr9 HAB1.out (.int .i64 0) (.int .i64 (RD.length : Nat)) (str RD) (.int .i64 0) (.int .i64 0) (.int .i64 0) (.int .i64 0) (.int .i64 0) (.slice none 0 0))
            go_wp2_with fail
            refine bodyPost_ret (v := .agg (ansC ⟨0, (RD.length : Nat), RD, sta0, []⟩ (.slice none 0 0)).toArray) (results_cell_row1 rfl _ _ gB 34 _ (0, 0) _ rfl HAZ.out Try.underlying34 rfl s34) rfl ?_
            rw [HV.out]
            exact HE.out
set_option maxRecDepth 6000 in
set_option maxHeartbeats 8000000 in
theorem mReadAt_c {B gm gt k : Nat} {fp : Nat → Prop} {w : World} {s : Stt} {O : List Nat} {ov : Value} (o : OpV) (h : MW B fp w gm gt s O ov) (si : SI k s.u s.hs s.T) (hk : k ≤ 70000) (hp : o.path.length ≤ 100000) (hp2 : o.path2.length ≤ 100000) (hdt : o.data.length ≤ 100000) (fl : FL s.hs) :
    Calls Try.prog 52 #[.pointer (some ⟨gm, 0, none⟩), .agg (opC o).toArray, .int .i64 o.off, .bool false] w fun e w' => MP B fp w gm gt ov ⟨(rdaF s.u s.hs s.T o.h o.off o.n).2, ((rdaF s.u s.hs s.T o.h o.off o.n).1.length : Nat), (rdaF s.u s.hs s.T o.h o.off o.n).1, sta0, []⟩ s e w' := by
  have HH := Hid.mk h
  obtain ⟨ok, oh, ofl, omo, on, oo, owh, op, op2, od⟩ := o
  simp only at hp hp2 hdt ⊢
  obtain ⟨R, hR⟩ : ∃ R, R = rdaF s.u s.hs s.T oh oo on := ⟨_, rfl⟩
  rw [← hR]
  unfold rdaF at hR
  cases ho : opn s.u oh with
  | false =>
    have hg : getOK s.u s.hs oh 1 = false := by rw [get1 fl, ho]; rfl
    rw [if_pos hg] at hR
    have HV := Hid.mk hR
    have WF := Hid.mk (fun W (kk : Keep w W) => where_f (h.keep kk) ho)
    clear hR hg ho h
    go_enter Try.func52, Try.ntmps52
    go_upto_region 1 with fail
    obtain ⟨w1, hw1⟩ : ∃ w1, w1 = (w.alloc (.cells (opC ⟨ok, oh, ofl, omo, on, oo, owh, op, op2, od⟩).toArray 37)).alloc (.cells #[.int .i64 0, .int .i64 0, str [], .int .i64 0, .int .i64 0, .int .i64 0, .int .i64 0, .int .i64 0, .slice none 0 0] 34) := ⟨_, rfl⟩
    rw [← hw1]
    have TWO : Two w w1 ⟨ok, oh, ofl, omo, on, oo, owh, op, op2, od⟩ := by rw [hw1]; exact Two.mk' w _
    obtain ⟨gA, hgA⟩ : ∃ g, g = w.heap.size := ⟨_, rfl⟩
    obtain ⟨gB, hgB⟩ : ∃ g, g = w.heap.size + 1 := ⟨_, rfl⟩
    have HGB : Hid (w.heap.size ≤ gB ∧ gB < w1.heap.size) := Hid.mk ⟨by omega, by rw [TWO.sz]; omega⟩
    have HAB : Hid (Arr w1 gB 34 zeroC) := Hid.mk (by rw [hgB]; exact TWO.b)
    have HAA : Hid (Arr w1 gA 37 (opC ⟨ok, oh, ofl, omo, on, oo, owh, op, op2, od⟩)) := Hid.mk (by rw [hgA]; exact TWO.a)
    have K1 := TWO.k
    have HK1 := Hid.mk K1
    have HNF : Hid (¬ fpM fp gm ov gA ∧ ¬ fpM fp gm ov gB ∧ gA ≠ gB ∧ gm ≠ gB ∧ gm ≠ gA) := Hid.mk ⟨fun a => by have := HH.out.flt a; omega, fun a => by have := HH.out.flt a; omega, by omega, fun e => by have := HH.out.flt (Or.inr (Or.inl rfl) : fpM fp gm ov gm); omega, fun e => by have := HH.out.flt (Or.inr (Or.inl rfl) : fpM fp gm ov gm); omega⟩
    rw [← hgB, ← hgA]
    clear hw1 TWO hgA hgB
    have a0 := HAA.out.cell 0
    have a1 := HAA.out.cell 1
    have a2 := HAA.out.cell 2
    have a3 := HAA.out.cell 3
    have a4 := HAA.out.cell 4
    have a5 := HAA.out.cell 5
    have a6 := HAA.out.cell 6
    have a7 := HAA.out.cell 7
    have a8 := HAA.out.cell 8
    have a9 := HAA.out.cell 9
    simp only [opC, List.getElem?_cons_zero, List.getElem?_cons_succ] at a0 a1 a2 a3 a4 a5 a6 a7 a8 a9
    obtain ⟨x0, x1⟩ := (HH.out.keep K1).cells
    go_wp2_with fail
    refine (WF.out _ K1).mono ?_
    rintro e y1 ⟨rfl, hy1⟩
    subst hy1
    have HQ1 := Hid.mk (Keep.refl y1)
    go_wp2_with fail
    refine (refuse_c 1 _).mono ?_
    rintro e y2 ⟨rfl, q2⟩
    obtain ⟨b0, b1, b2, b3, b4, b5, b6, b7, b8, z0, z1, z2, z3, z4, z5, z6, z7, z8⟩ := z9 (HAB.out.keep (HQ1.out.trans q2))
    have HE := Hid.mk (MP.fin (a := ⟨1, 0, [], sta0, []⟩) (v := (.slice none 0 0)) HH.out HK1.out (HH.out.keep (HK1.out.trans (HQ1.out.trans q2))) (Stp.keep (HQ1.out.trans q2)) HGB.out (OwnS.nil _ _ _ _ _) (fr9 (.int .i64 1) (.int .i64 0) (str []) (.int .i64 0) (.int .i64 0) (.int .i64 0) (.int .i64 0) (.int .i64 0) (.slice none 0 0)))
    have HAZ := Hid.mk (arr9 (HAB.out.keep (HQ1.out.trans q2)) (.int .i64 1) (.int .i64 0) (str []) (.int .i64 0) (.int .i64 0) (.int .i64 0) (.int .i64 0) (.int .i64 0) (.slice none 0 0))
    clear q2
    go_wp2_with fail
    refine bodyPost_ret (v := .agg (ansC ⟨1, 0, [], sta0, []⟩ (.slice none 0 0)).toArray) (results_cell_row1 rfl _ _ gB 34 _ (0, 0) _ rfl HAZ.out Try.underlying34 rfl s34) rfl ?_
    rw [HV.out]
    exact HE.out
  | true =>
    have hg : getOK s.u s.hs oh 1 = bt (hat s.hs oh.toNat).flags 1 := by rw [get1 fl, ho]; rfl
    rw [hg] at hR
    clear hg
    obtain ⟨i, hi, hox, hox2⟩ := h.rel.idx ho
    have X := HX.of h.rel si hi
    have hfl := fl O[i]
    rw [hox2] at hR
    obtain ⟨g, c, hov, l1, l2, -⟩ := h.row hi
    subst hov
    have HWT : Hid (∀ W, Keep w W → Calls Try.prog 55 #[.pointer (some ⟨gm, 0, none⟩), .int .i64 oh] W fun e w' => e = .returned (.int .i64 i) ∧ w' = W) := Hid.mk (fun W (kk : Keep w W) => by rw [hox]; exact where_t (h.keep kk) hi)
    clear hox2 ho hox
    have HROW := Hid.mk (fun W (kk : Keep w W) => (h.keep kk).rowAt hi)
    have HTR := Hid.mk (fun W (kk : Keep w W) => (h.keep kk).tree.tr)
    have HKC := Hid.mk (fun W (kk : Keep w W) => kindOf_c (h.keep kk) X.nl)
    have HOFF := Hid.mk (fun W (M : MW B fp W gm gt s O (.slice (some ⟨g, 0, none⟩) O.length c)) z => M.setOff hi z)
    have HCUR := Hid.mk (fun W (M : MW B fp W gm gt s O (.slice (some ⟨g, 0, none⟩) O.length c)) z => M.setCur hi z)
    have i1 : (i : Int) < O.length := by omega
    have i2 : (0 : Int) ≤ i := by omega
    unfold maxLen at l2
    have hD := si.t.data (hat s.hs O[i]).node
    cases hbt : bt (hat s.hs O[i]).flags 1 with
    | false =>
      rw [if_pos hbt] at hR
      have HV := Hid.mk hR
      clear hR h si fl hfl X
      go_enter Try.func52, Try.ntmps52
      go_upto_region 1 with fail
      obtain ⟨w1, hw1⟩ : ∃ w1, w1 = (w.alloc (.cells (opC ⟨ok, oh, ofl, omo, on, oo, owh, op, op2, od⟩).toArray 37)).alloc (.cells #[.int .i64 0, .int .i64 0, str [], .int .i64 0, .int .i64 0, .int .i64 0, .int .i64 0, .int .i64 0, .slice none 0 0] 34) := ⟨_, rfl⟩
      rw [← hw1]
      have TWO : Two w w1 ⟨ok, oh, ofl, omo, on, oo, owh, op, op2, od⟩ := by rw [hw1]; exact Two.mk' w _
      obtain ⟨gA, hgA⟩ : ∃ g, g = w.heap.size := ⟨_, rfl⟩
      obtain ⟨gB, hgB⟩ : ∃ g, g = w.heap.size + 1 := ⟨_, rfl⟩
      have HGB : Hid (w.heap.size ≤ gB ∧ gB < w1.heap.size) := Hid.mk ⟨by omega, by rw [TWO.sz]; omega⟩
      have HAB : Hid (Arr w1 gB 34 zeroC) := Hid.mk (by rw [hgB]; exact TWO.b)
      have HAA : Hid (Arr w1 gA 37 (opC ⟨ok, oh, ofl, omo, on, oo, owh, op, op2, od⟩)) := Hid.mk (by rw [hgA]; exact TWO.a)
      have K1 := TWO.k
      have HK1 := Hid.mk K1
      have HNF : Hid (¬ fpM fp gm (.slice (some ⟨g, 0, none⟩) O.length c) gA ∧ ¬ fpM fp gm (.slice (some ⟨g, 0, none⟩) O.length c) gB ∧ gA ≠ gB ∧ gm ≠ gB ∧ gm ≠ gA) := Hid.mk ⟨fun a => by have := HH.out.flt a; omega, fun a => by have := HH.out.flt a; omega, by omega, fun e => by have := HH.out.flt (Or.inr (Or.inl rfl) : fpM fp gm (.slice (some ⟨g, 0, none⟩) O.length c) gm); omega, fun e => by have := HH.out.flt (Or.inr (Or.inl rfl) : fpM fp gm (.slice (some ⟨g, 0, none⟩) O.length c) gm); omega⟩
      rw [← hgB, ← hgA]
      clear hw1 TWO hgA hgB
      have a0 := HAA.out.cell 0
      have a1 := HAA.out.cell 1
      have a2 := HAA.out.cell 2
      have a3 := HAA.out.cell 3
      have a4 := HAA.out.cell 4
      have a5 := HAA.out.cell 5
      have a6 := HAA.out.cell 6
      have a7 := HAA.out.cell 7
      have a8 := HAA.out.cell 8
      have a9 := HAA.out.cell 9
      simp only [opC, List.getElem?_cons_zero, List.getElem?_cons_succ] at a0 a1 a2 a3 a4 a5 a6 a7 a8 a9
      obtain ⟨x0, x1⟩ := (HH.out.keep K1).cells
      obtain ⟨fz, r0, r1, r2, r3, r4, r5, r6⟩ := HROW.out _ K1
      go_wp2_with fail
      refine (HWT.out _ K1).mono ?_
      rintro e y1 ⟨rfl, hy1⟩
      subst hy1
      rw [hbt] at r2
      have HQ1 := Hid.mk (Keep.refl y1)
      go_wp2_with fail
      refine (refuse_c 1 _).mono ?_
      rintro e y2 ⟨rfl, q2⟩
      obtain ⟨b0, b1, b2, b3, b4, b5, b6, b7, b8, z0, z1, z2, z3, z4, z5, z6, z7, z8⟩ := z9 (HAB.out.keep (HQ1.out.trans q2))
      have HE := Hid.mk (MP.fin (a := ⟨1, 0, [], sta0, []⟩) (v := (.slice none 0 0)) HH.out HK1.out (HH.out.keep (HK1.out.trans (HQ1.out.trans q2))) (Stp.keep (HQ1.out.trans q2)) HGB.out (OwnS.nil _ _ _ _ _) (fr9 (.int .i64 1) (.int .i64 0) (str []) (.int .i64 0) (.int .i64 0) (.int .i64 0) (.int .i64 0) (.int .i64 0) (.slice none 0 0)))
      have HAZ := Hid.mk (arr9 (HAB.out.keep (HQ1.out.trans q2)) (.int .i64 1) (.int .i64 0) (str []) (.int .i64 0) (.int .i64 0) (.int .i64 0) (.int .i64 0) (.int .i64 0) (.slice none 0 0))
      clear q2
      go_wp2_with fail
      refine bodyPost_ret (v := .agg (ansC ⟨1, 0, [], sta0, []⟩ (.slice none 0 0)).toArray) (results_cell_row1 rfl _ _ gB 34 _ (0, 0) _ rfl HAZ.out Try.underlying34 rfl s34) rfl ?_
      rw [HV.out]
      exact HE.out
    | true =>
      rw [if_neg (by rw [hbt]; decide)] at hR
      by_cases hd : (at' s.T (hat s.hs O[i]).node).kind = 2
      · rw [if_pos (by rw [X.dir]; exact decide_eq_true hd)] at hR
        rw [hd] at HKC
        have HV := Hid.mk hR
        clear hR h si fl hfl X
        go_enter Try.func52, Try.ntmps52
        go_upto_region 1 with fail
        obtain ⟨w1, hw1⟩ : ∃ w1, w1 = (w.alloc (.cells (opC ⟨ok, oh, ofl, omo, on, oo, owh, op, op2, od⟩).toArray 37)).alloc (.cells #[.int .i64 0, .int .i64 0, str [], .int .i64 0, .int .i64 0, .int .i64 0, .int .i64 0, .int .i64 0, .slice none 0 0] 34) := ⟨_, rfl⟩
        rw [← hw1]
        have TWO : Two w w1 ⟨ok, oh, ofl, omo, on, oo, owh, op, op2, od⟩ := by rw [hw1]; exact Two.mk' w _
        obtain ⟨gA, hgA⟩ : ∃ g, g = w.heap.size := ⟨_, rfl⟩
        obtain ⟨gB, hgB⟩ : ∃ g, g = w.heap.size + 1 := ⟨_, rfl⟩
        have HGB : Hid (w.heap.size ≤ gB ∧ gB < w1.heap.size) := Hid.mk ⟨by omega, by rw [TWO.sz]; omega⟩
        have HAB : Hid (Arr w1 gB 34 zeroC) := Hid.mk (by rw [hgB]; exact TWO.b)
        have HAA : Hid (Arr w1 gA 37 (opC ⟨ok, oh, ofl, omo, on, oo, owh, op, op2, od⟩)) := Hid.mk (by rw [hgA]; exact TWO.a)
        have K1 := TWO.k
        have HK1 := Hid.mk K1
        have HNF : Hid (¬ fpM fp gm (.slice (some ⟨g, 0, none⟩) O.length c) gA ∧ ¬ fpM fp gm (.slice (some ⟨g, 0, none⟩) O.length c) gB ∧ gA ≠ gB ∧ gm ≠ gB ∧ gm ≠ gA) := Hid.mk ⟨fun a => by have := HH.out.flt a; omega, fun a => by have := HH.out.flt a; omega, by omega, fun e => by have := HH.out.flt (Or.inr (Or.inl rfl) : fpM fp gm (.slice (some ⟨g, 0, none⟩) O.length c) gm); omega, fun e => by have := HH.out.flt (Or.inr (Or.inl rfl) : fpM fp gm (.slice (some ⟨g, 0, none⟩) O.length c) gm); omega⟩
        rw [← hgB, ← hgA]
        clear hw1 TWO hgA hgB
        have a0 := HAA.out.cell 0
        have a1 := HAA.out.cell 1
        have a2 := HAA.out.cell 2
        have a3 := HAA.out.cell 3
        have a4 := HAA.out.cell 4
        have a5 := HAA.out.cell 5
        have a6 := HAA.out.cell 6
        have a7 := HAA.out.cell 7
        have a8 := HAA.out.cell 8
        have a9 := HAA.out.cell 9
        simp only [opC, List.getElem?_cons_zero, List.getElem?_cons_succ] at a0 a1 a2 a3 a4 a5 a6 a7 a8 a9
        obtain ⟨x0, x1⟩ := (HH.out.keep K1).cells
        obtain ⟨fz, r0, r1, r2, r3, r4, r5, r6⟩ := HROW.out _ K1
        go_wp2_with fail
        refine (HWT.out _ K1).mono ?_
        rintro e y1 ⟨rfl, hy1⟩
        subst hy1
        rw [hbt] at r2
        go_wp2_with fail
        refine (HKC.out _ K1).mono ?_
        rintro e y2 ⟨rfl, hy2⟩
        subst hy2
        have HQ1 := Hid.mk (Keep.refl y2)
        go_wp2_with fail
        refine (refuse_c 8 _).mono ?_
        rintro e y2 ⟨rfl, q2⟩
        obtain ⟨b0, b1, b2, b3, b4, b5, b6, b7, b8, z0, z1, z2, z3, z4, z5, z6, z7, z8⟩ := z9 (HAB.out.keep (HQ1.out.trans q2))
        have HE := Hid.mk (MP.fin (a := ⟨8, 0, [], sta0, []⟩) (v := (.slice none 0 0)) HH.out HK1.out (HH.out.keep (HK1.out.trans (HQ1.out.trans q2))) (Stp.keep (HQ1.out.trans q2)) HGB.out (OwnS.nil _ _ _ _ _) (fr9 (.int .i64 8) (.int .i64 0) (str []) (.int .i64 0) (.int .i64 0) (.int .i64 0) (.int .i64 0) (.int .i64 0) (.slice none 0 0)))
        have HAZ := Hid.mk (arr9 (HAB.out.keep (HQ1.out.trans q2)) (.int .i64 8) (.int .i64 0) (str []) (.int .i64 0) (.int .i64 0) (.int .i64 0) (.int .i64 0) (.int .i64 0) (.slice none 0 0))
        clear q2
        go_wp2_with fail
        refine bodyPost_ret (v := .agg (ansC ⟨8, 0, [], sta0, []⟩ (.slice none 0 0)).toArray) (results_cell_row1 rfl _ _ gB 34 _ (0, 0) _ rfl HAZ.out Try.underlying34 rfl s34) rfl ?_
        rw [HV.out]
        exact HE.out
      · rw [if_neg (by rw [X.dir]; simpa using hd)] at hR
        have n2 : (((at' s.T (hat s.hs O[i]).node).kind : Int) == 2) = false := by simp; omega
        have hof : ((hat s.hs O[i]).off : Int) ≤ 1048576 := by have := X.off; omega
        have hof0 : (0 : Int) ≤ ((hat s.hs O[i]).off : Int) := by omega
        have hnl := X.nl
        by_cases hn : on < 0
        · rw [if_pos (Or.inl hn)] at hR
          have HV := Hid.mk hR
          clear hR h si fl hfl X
          go_enter Try.func52, Try.ntmps52
          go_upto_region 1 with fail
          obtain ⟨w1, hw1⟩ : ∃ w1, w1 = (w.alloc (.cells (opC ⟨ok, oh, ofl, omo, on, oo, owh, op, op2, od⟩).toArray 37)).alloc (.cells #[.int .i64 0, .int .i64 0, str [], .int .i64 0, .int .i64 0, .int .i64 0, .int .i64 0, .int .i64 0, .slice none 0 0] 34) := ⟨_, rfl⟩
          rw [← hw1]
          have TWO : Two w w1 ⟨ok, oh, ofl, omo, on, oo, owh, op, op2, od⟩ := by rw [hw1]; exact Two.mk' w _
          obtain ⟨gA, hgA⟩ : ∃ g, g = w.heap.size := ⟨_, rfl⟩
          obtain ⟨gB, hgB⟩ : ∃ g, g = w.heap.size + 1 := ⟨_, rfl⟩
          have HGB : Hid (w.heap.size ≤ gB ∧ gB < w1.heap.size) := Hid.mk ⟨by omega, by rw [TWO.sz]; omega⟩
          have HAB : Hid (Arr w1 gB 34 zeroC) := Hid.mk (by rw [hgB]; exact TWO.b)
          have HAA : Hid (Arr w1 gA 37 (opC ⟨ok, oh, ofl, omo, on, oo, owh, op, op2, od⟩)) := Hid.mk (by rw [hgA]; exact TWO.a)
          have K1 := TWO.k
          have HK1 := Hid.mk K1
          have HNF : Hid (¬ fpM fp gm (.slice (some ⟨g, 0, none⟩) O.length c) gA ∧ ¬ fpM fp gm (.slice (some ⟨g, 0, none⟩) O.length c) gB ∧ gA ≠ gB ∧ gm ≠ gB ∧ gm ≠ gA) := Hid.mk ⟨fun a => by have := HH.out.flt a; omega, fun a => by have := HH.out.flt a; omega, by omega, fun e => by have := HH.out.flt (Or.inr (Or.inl rfl) : fpM fp gm (.slice (some ⟨g, 0, none⟩) O.length c) gm); omega, fun e => by have := HH.out.flt (Or.inr (Or.inl rfl) : fpM fp gm (.slice (some ⟨g, 0, none⟩) O.length c) gm); omega⟩
          rw [← hgB, ← hgA]
          clear hw1 TWO hgA hgB
          have a0 := HAA.out.cell 0
          have a1 := HAA.out.cell 1
          have a2 := HAA.out.cell 2
          have a3 := HAA.out.cell 3
          have a4 := HAA.out.cell 4
          have a5 := HAA.out.cell 5
          have a6 := HAA.out.cell 6
          have a7 := HAA.out.cell 7
          have a8 := HAA.out.cell 8
          have a9 := HAA.out.cell 9
          simp only [opC, List.getElem?_cons_zero, List.getElem?_cons_succ] at a0 a1 a2 a3 a4 a5 a6 a7 a8 a9
          obtain ⟨x0, x1⟩ := (HH.out.keep K1).cells
          obtain ⟨fz, r0, r1, r2, r3, r4, r5, r6⟩ := HROW.out _ K1
          go_wp2_with fail
          refine (HWT.out _ K1).mono ?_
          rintro e y1 ⟨rfl, hy1⟩
          subst hy1
          rw [hbt] at r2
          go_wp2_with fail
          refine (HKC.out _ K1).mono ?_
          rintro e y2 ⟨rfl, hy2⟩
          subst hy2
          have HQ1 := Hid.mk (Keep.refl y2)
          go_wp2_with fail
          refine (refuse_c 2 _).mono ?_
          rintro e y2 ⟨rfl, q2⟩
          obtain ⟨b0, b1, b2, b3, b4, b5, b6, b7, b8, z0, z1, z2, z3, z4, z5, z6, z7, z8⟩ := z9 (HAB.out.keep (HQ1.out.trans q2))
          have HE := Hid.mk (MP.fin (a := ⟨2, 0, [], sta0, []⟩) (v := (.slice none 0 0)) HH.out HK1.out (HH.out.keep (HK1.out.trans (HQ1.out.trans q2))) (Stp.keep (HQ1.out.trans q2)) HGB.out (OwnS.nil _ _ _ _ _) (fr9 (.int .i64 2) (.int .i64 0) (str []) (.int .i64 0) (.int .i64 0) (.int .i64 0) (.int .i64 0) (.int .i64 0) (.slice none 0 0)))
          have HAZ := Hid.mk (arr9 (HAB.out.keep (HQ1.out.trans q2)) (.int .i64 2) (.int .i64 0) (str []) (.int .i64 0) (.int .i64 0) (.int .i64 0) (.int .i64 0) (.int .i64 0) (.slice none 0 0))
          clear q2
          go_wp2_with fail
          refine bodyPost_ret (v := .agg (ansC ⟨2, 0, [], sta0, []⟩ (.slice none 0 0)).toArray) (results_cell_row1 rfl _ _ gB 34 _ (0, 0) _ rfl HAZ.out Try.underlying34 rfl s34) rfl ?_
          rw [HV.out]
          exact HE.out
        · have hn1 : 0 ≤ on := by omega
          cases hvs : vsB oo with
          | false =>
            rw [if_pos (Or.inr hvs)] at hR
            have HV := Hid.mk hR
            have HVS := Hid.mk (fun W => sizeOK_c oo W)
            rw [hvs] at HVS
            clear hvs hn
            clear hR h si fl hfl X
            go_enter Try.func52, Try.ntmps52
            go_upto_region 1 with fail
            obtain ⟨w1, hw1⟩ : ∃ w1, w1 = (w.alloc (.cells (opC ⟨ok, oh, ofl, omo, on, oo, owh, op, op2, od⟩).toArray 37)).alloc (.cells #[.int .i64 0, .int .i64 0, str [], .int .i64 0, .int .i64 0, .int .i64 0, .int .i64 0, .int .i64 0, .slice none 0 0] 34) := ⟨_, rfl⟩
            rw [← hw1]
            have TWO : Two w w1 ⟨ok, oh, ofl, omo, on, oo, owh, op, op2, od⟩ := by rw [hw1]; exact Two.mk' w _
            obtain ⟨gA, hgA⟩ : ∃ g, g = w.heap.size := ⟨_, rfl⟩
            obtain ⟨gB, hgB⟩ : ∃ g, g = w.heap.size + 1 := ⟨_, rfl⟩
            have HGB : Hid (w.heap.size ≤ gB ∧ gB < w1.heap.size) := Hid.mk ⟨by omega, by rw [TWO.sz]; omega⟩
            have HAB : Hid (Arr w1 gB 34 zeroC) := Hid.mk (by rw [hgB]; exact TWO.b)
            have HAA : Hid (Arr w1 gA 37 (opC ⟨ok, oh, ofl, omo, on, oo, owh, op, op2, od⟩)) := Hid.mk (by rw [hgA]; exact TWO.a)
            have K1 := TWO.k
            have HK1 := Hid.mk K1
            have HNF : Hid (¬ fpM fp gm (.slice (some ⟨g, 0, none⟩) O.length c) gA ∧ ¬ fpM fp gm (.slice (some ⟨g, 0, none⟩) O.length c) gB ∧ gA ≠ gB ∧ gm ≠ gB ∧ gm ≠ gA) := Hid.mk ⟨fun a => by have := HH.out.flt a; omega, fun a => by have := HH.out.flt a; omega, by omega, fun e => by have := HH.out.flt (Or.inr (Or.inl rfl) : fpM fp gm (.slice (some ⟨g, 0, none⟩) O.length c) gm); omega, fun e => by have := HH.out.flt (Or.inr (Or.inl rfl) : fpM fp gm (.slice (some ⟨g, 0, none⟩) O.length c) gm); omega⟩
            rw [← hgB, ← hgA]
            clear hw1 TWO hgA hgB
            have a0 := HAA.out.cell 0
            have a1 := HAA.out.cell 1
            have a2 := HAA.out.cell 2
            have a3 := HAA.out.cell 3
            have a4 := HAA.out.cell 4
            have a5 := HAA.out.cell 5
            have a6 := HAA.out.cell 6
            have a7 := HAA.out.cell 7
            have a8 := HAA.out.cell 8
            have a9 := HAA.out.cell 9
            simp only [opC, List.getElem?_cons_zero, List.getElem?_cons_succ] at a0 a1 a2 a3 a4 a5 a6 a7 a8 a9
            obtain ⟨x0, x1⟩ := (HH.out.keep K1).cells
            obtain ⟨fz, r0, r1, r2, r3, r4, r5, r6⟩ := HROW.out _ K1
            go_wp2_with fail
            refine (HWT.out _ K1).mono ?_
            rintro e y1 ⟨rfl, hy1⟩
            subst hy1
            rw [hbt] at r2
            go_wp2_with fail
            refine (HKC.out _ K1).mono ?_
            rintro e y2 ⟨rfl, hy2⟩
            subst hy2
            have HQ1 := Hid.mk (Keep.refl y2)
            go_wp2_with fail
            refine (HVS.out _).mono ?_
            rintro e y3 ⟨rfl, hy3⟩
            subst hy3
            go_wp2_with fail
            refine (refuse_c 2 _).mono ?_
            rintro e y2 ⟨rfl, q2⟩
            obtain ⟨b0, b1, b2, b3, b4, b5, b6, b7, b8, z0, z1, z2, z3, z4, z5, z6, z7, z8⟩ := z9 (HAB.out.keep ((Keep.refl y3).trans q2))
            have HE := Hid.mk (MP.fin (a := ⟨2, 0, [], sta0, []⟩) (v := (.slice none 0 0)) HH.out HK1.out (HH.out.keep (HK1.out.trans ((Keep.refl y3).trans q2))) (Stp.keep ((Keep.refl y3).trans q2)) HGB.out (OwnS.nil _ _ _ _ _) (fr9 (.int .i64 2) (.int .i64 0) (str []) (.int .i64 0) (.int .i64 0) (.int .i64 0) (.int .i64 0) (.int .i64 0) (.slice none 0 0)))
            have HAZ := Hid.mk (arr9 (HAB.out.keep ((Keep.refl y3).trans q2)) (.int .i64 2) (.int .i64 0) (str []) (.int .i64 0) (.int .i64 0) (.int .i64 0) (.int .i64 0) (.int .i64 0) (.slice none 0 0))
            clear q2
            go_wp2_with fail
            refine bodyPost_ret (v := .agg (ansC ⟨2, 0, [], sta0, []⟩ (.slice none 0 0)).toArray) (results_cell_row1 rfl _ _ gB 34 _ (0, 0) _ rfl HAZ.out Try.underlying34 rfl s34) rfl ?_
            rw [HV.out]
            exact HE.out
          | true =>
            rw [if_neg (by rw [hvs]; simp; omega)] at hR
            have hz : 0 ≤ oo ∧ oo ≤ 1048576 := by unfold vsB at hvs; simpa using hvs
            have HVS := Hid.mk (fun W => sizeOK_c oo W)
            rw [hvs] at HVS
            obtain ⟨z, rfl⟩ : ∃ z : Nat, oo = z := ⟨oo.toNat, by omega⟩
            rw [Int.toNat_natCast] at hR
            have HRC := Hid.mk (fun W (kk : Keep w W) => readAt_c gt (hat s.hs O[i]).node z on s.T W (h.keep kk).tree.tr hnl hn1 (by omega) (by omega))
            have HRL : (readF (at' s.T (hat s.hs O[i]).node).data z on.toNat).length ≤ 32768 := by unfold readF; rw [List.length_take, List.length_drop]; omega
            generalize readF (at' s.T (hat s.hs O[i]).node).data z on.toNat = RD at *
            have hrl : (RD.length : Int) ≤ 32768 := by omega
            have HV := Hid.mk hR
            clear hvs hn HRL hz
            clear hR h si fl hfl X
            go_enter Try.func52, Try.ntmps52
            go_upto_region 1 with fail
            obtain ⟨w1, hw1⟩ : ∃ w1, w1 = (w.alloc (.cells (opC ⟨ok, oh, ofl, omo, on, (z : Nat), owh, op, op2, od⟩).toArray 37)).alloc (.cells #[.int .i64 0, .int .i64 0, str [], .int .i64 0, .int .i64 0, .int .i64 0, .int .i64 0, .int .i64 0, .slice none 0 0] 34) := ⟨_, rfl⟩
            rw [← hw1]
            have TWO : Two w w1 ⟨ok, oh, ofl, omo, on, (z : Nat), owh, op, op2, od⟩ := by rw [hw1]; exact Two.mk' w _
            obtain ⟨gA, hgA⟩ : ∃ g, g = w.heap.size := ⟨_, rfl⟩
            obtain ⟨gB, hgB⟩ : ∃ g, g = w.heap.size + 1 := ⟨_, rfl⟩
            have HGB : Hid (w.heap.size ≤ gB ∧ gB < w1.heap.size) := Hid.mk ⟨by omega, by rw [TWO.sz]; omega⟩
            have HAB : Hid (Arr w1 gB 34 zeroC) := Hid.mk (by rw [hgB]; exact TWO.b)
            have HAA : Hid (Arr w1 gA 37 (opC ⟨ok, oh, ofl, omo, on, (z : Nat), owh, op, op2, od⟩)) := Hid.mk (by rw [hgA]; exact TWO.a)
            have K1 := TWO.k
            have HK1 := Hid.mk K1
            have HNF : Hid (¬ fpM fp gm (.slice (some ⟨g, 0, none⟩) O.length c) gA ∧ ¬ fpM fp gm (.slice (some ⟨g, 0, none⟩) O.length c) gB ∧ gA ≠ gB ∧ gm ≠ gB ∧ gm ≠ gA) := Hid.mk ⟨fun a => by have := HH.out.flt a; omega, fun a => by have := HH.out.flt a; omega, by omega, fun e => by have := HH.out.flt (Or.inr (Or.inl rfl) : fpM fp gm (.slice (some ⟨g, 0, none⟩) O.length c) gm); omega, fun e => by have := HH.out.flt (Or.inr (Or.inl rfl) : fpM fp gm (.slice (some ⟨g, 0, none⟩) O.length c) gm); omega⟩
            rw [← hgB, ← hgA]
            clear hw1 TWO hgA hgB
            have a0 := HAA.out.cell 0
            have a1 := HAA.out.cell 1
            have a2 := HAA.out.cell 2
            have a3 := HAA.out.cell 3
            have a4 := HAA.out.cell 4
            have a5 := HAA.out.cell 5
            have a6 := HAA.out.cell 6
            have a7 := HAA.out.cell 7
            have a8 := HAA.out.cell 8
            have a9 := HAA.out.cell 9
            simp only [opC, List.getElem?_cons_zero, List.getElem?_cons_succ] at a0 a1 a2 a3 a4 a5 a6 a7 a8 a9
            obtain ⟨x0, x1⟩ := (HH.out.keep K1).cells
            obtain ⟨fz, r0, r1, r2, r3, r4, r5, r6⟩ := HROW.out _ K1
            go_wp2_with fail
            refine (HWT.out _ K1).mono ?_
            rintro e y1 ⟨rfl, hy1⟩
            subst hy1
            rw [hbt] at r2
            go_wp2_with fail
            refine (HKC.out _ K1).mono ?_
            rintro e y2 ⟨rfl, hy2⟩
            subst hy2
            have HQ1 := Hid.mk (Keep.refl y2)
            go_wp2_with fail
            refine (HVS.out _).mono ?_
            rintro e y3 ⟨rfl, hy3⟩
            subst hy3
            go_upto_region 10 with fail
            go_cut [10] from 59 to 74 (fun v10 wx => v10 = str RD ∧ Keep y3 wx)
            case first =>
              have HSK : Hid (∀ W : World, Keep y3 W → W.cell? ⟨gm, 0, none⟩ = some (.pointer (some ⟨gt, 0, none⟩)) ∧ W.cell? ⟨gm, 1, none⟩ = some (.slice (some ⟨g, 0, none⟩) O.length c) ∧ W.cell? ⟨g, i * 7 + 1, none⟩ = some (.int .i64 ((hat s.hs O[i]).node : Nat)) ∧ W.cell? ⟨gA, 4, none⟩ = some (.int .i64 on)) := Hid.mk (fun W kk => ⟨kk.cell x0, kk.cell x1, kk.cell r1, kk.cell a4⟩)
              go_region_held3 (fun W : World => W.cell? ⟨gm, 0, none⟩ = some (.pointer (some ⟨gt, 0, none⟩)) ∧ W.cell? ⟨gm, 1, none⟩ = some (.slice (some ⟨g, 0, none⟩) O.length c) ∧ W.cell? ⟨g, i * 7 + 1, none⟩ = some (.int .i64 ((hat s.hs O[i]).node : Nat)) ∧ W.cell? ⟨gA, 4, none⟩ = some (.int .i64 on))
                (with_reducible first | assumption | exact ⟨x0, x1, r1, a4⟩ | exact HSK.out _ (Keep.refl y3).drew | exact HSK.out _ Q2)
                ((go_at_call 77; refine (HRC.out _ (HK1.out.trans (Keep.refl y3).drew)).mono ?_; rintro x y ⟨rfl, q2⟩; have Q2 := (Keep.refl y3).drew.trans q2))
              go_wp2_with fail
              go_meet
              case rel => exact ⟨rfl, Q2⟩
            case rest =>
              obtain ⟨rfl, q4⟩ := hcut
              obtain ⟨y4, hy4⟩ : ∃ y4, y4 = wc := ⟨_, rfl⟩
              subst hy4
              have HQ4 := Hid.mk q4
              obtain ⟨b0, b1, b2, b3, b4, b5, b6, b7, b8, z0, z1, z2, z3, z4, z5, z6, z7, z8⟩ := z9 (HAB.out.keep HQ4.out)
              have HE := Hid.mk (MP.fin (a := ⟨0, (RD.length : Nat), RD, sta0, []⟩) (v := (.slice none 0 0)) HH.out HK1.out (HH.out.keep (HK1.out.trans HQ4.out)) (Stp.keep HQ4.out) HGB.out (OwnS.nil _ _ _ _ _) (fr9 (.int .i64 0) (.int .i64 (RD.length : Nat)) (str RD) (.int .i64 0) (.int .i64 0) (.int .i64 0) (.int .i64 0) (.int .i64 0) (.slice none 0 0)))
              have HAZ := Hid.mk (arr9 (HAB.out.keep HQ4.out) (.int .i64 0) (.int .i64 (RD.length : Nat)) (str RD) (.int .i64 0) (.int .i64 0) (.int .i64 0) (.int .i64 0) (.int .i64 0) (.slice none 0 0))
              clear q4
              go_wp2_with fail
              refine bodyPost_ret (v := .agg (ansC ⟨0, (RD.length : Nat), RD, sta0, []⟩ (.slice none 0 0)).toArray) (results_cell_row1 rfl _ _ gB 34 _ (0, 0) _ rfl HAZ.out Try.underlying34 rfl s34) rfl ?_
              rw [HV.out]
              exact HE.out
end Go.Proofs.Qxb6500767a
