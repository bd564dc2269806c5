/- unionvfsm: readdir. -/
import Derived.Test.Qxb6500767aNe
import Derived.Test.Qxb6500767aHe
namespace Go.Proofs.Qxb6500767a
open Go.RowKit Go.Qm
set_option linter.unusedVariables false
set_option linter.unusedSimpArgs false
attribute [local go_sem ↓] Go.wp_at_zero Go.wp_at_succ
theorem lastK_take {c : List UInt8} {l : List Dir} {k : Nat} (hk : k < l.length) : lastK c (l.take (k + 1)) = l[k].key := by
  rw [lastK_get (l := l.take (k + 1)) (m := k) (by rw [List.length_take]; omega)]
  simp
set_option maxRecDepth 6000 in
set_option maxHeartbeats 8000000 in
theorem mReaddir_c {B gm gt k : Nat} {fp : Nat → Prop} {w : World} {s : Stt} {O : List Nat} {ov : Value} (o : OpV) (h : MW B fp w gm gt s O ov) (si : SI k s.u s.hs s.T) (hk : k ≤ 70000) (hp : o.path.length ≤ 100000) (hp2 : o.path2.length ≤ 100000) (hdt : o.data.length ≤ 100000) (fl : FL s.hs) :
    Calls Try.prog 61 #[.pointer (some ⟨gm, 0, none⟩), .agg (opC o).toArray] w fun e w' => MP B fp w gm gt ov ⟨(rddF s.u s.hs s.T o.h o.n).2.2, ((rddF s.u s.hs s.T o.h o.n).2.1.length : Nat), [], sta0, (rddF s.u s.hs s.T o.h o.n).2.1⟩ ⟨s.u, (rddF s.u s.hs s.T o.h o.n).1, s.T⟩ e w' := by
  have HH := Hid.mk h
  obtain ⟨ok, oh, ofl, omo, on, oo, owh, op, op2, od⟩ := o
  simp only at hp hp2 hdt ⊢
  obtain ⟨R, hR⟩ : ∃ R, R = rddF s.u s.hs s.T oh on := ⟨_, rfl⟩
  rw [← hR]
  unfold rddF at hR
  cases ho : opn s.u oh with
  | false =>
    have hg : getOK s.u s.hs oh 1 = false := by rw [get1 fl, ho]; rfl
    rw [if_pos hg] at hR
    have HV := Hid.mk hR
    have WF := Hid.mk (fun W (kk : Keep w W) => where_f (h.keep kk) ho)
    clear hR hg ho h
    go_enter Try.func61, Try.ntmps61
    go_upto_region 1 with fail
    obtain ⟨w1, hw1⟩ : ∃ w1, w1 = (w.alloc (.cells (opC ⟨ok, oh, ofl, omo, on, oo, owh, op, op2, od⟩).toArray 37)).alloc (.cells #[.int .i64 0, .int .i64 0, str [], .int .i64 0, .int .i64 0, .int .i64 0, .int .i64 0, .int .i64 0, .slice none 0 0] 34) := ⟨_, rfl⟩
    rw [← hw1]
    have TWO : Two w w1 ⟨ok, oh, ofl, omo, on, oo, owh, op, op2, od⟩ := by rw [hw1]; exact Two.mk' w _
    obtain ⟨gA, hgA⟩ : ∃ g, g = w.heap.size := ⟨_, rfl⟩
    obtain ⟨gB, hgB⟩ : ∃ g, g = w.heap.size + 1 := ⟨_, rfl⟩
    have HGB : Hid (w.heap.size ≤ gB ∧ gB < w1.heap.size) := Hid.mk ⟨by omega, by rw [TWO.sz]; omega⟩
    have HAB : Hid (Arr w1 gB 34 zeroC) := Hid.mk (by rw [hgB]; exact TWO.b)
    have HAA : Hid (Arr w1 gA 37 (opC ⟨ok, oh, ofl, omo, on, oo, owh, op, op2, od⟩)) := Hid.mk (by rw [hgA]; exact TWO.a)
    have K1 := TWO.k
    have HK1 := Hid.mk K1
    have HNF : Hid (¬ fpM fp gm ov gA ∧ ¬ fpM fp gm ov gB ∧ gA ≠ gB ∧ gm ≠ gB ∧ gm ≠ gA) := Hid.mk ⟨fun a => by have := HH.out.flt a; omega, fun a => by have := HH.out.flt a; omega, by omega, fun e => by have := HH.out.flt (Or.inr (Or.inl rfl) : fpM fp gm ov gm); omega, fun e => by have := HH.out.flt (Or.inr (Or.inl rfl) : fpM fp gm ov gm); omega⟩
    rw [← hgB, ← hgA]
    clear hw1 TWO hgA hgB
    have a0 := HAA.out.cell 0
    have a1 := HAA.out.cell 1
    have a2 := HAA.out.cell 2
    have a3 := HAA.out.cell 3
    have a4 := HAA.out.cell 4
    have a5 := HAA.out.cell 5
    have a6 := HAA.out.cell 6
    have a7 := HAA.out.cell 7
    have a8 := HAA.out.cell 8
    have a9 := HAA.out.cell 9
    simp only [opC, List.getElem?_cons_zero, List.getElem?_cons_succ] at a0 a1 a2 a3 a4 a5 a6 a7 a8 a9
    obtain ⟨x0, x1⟩ := (HH.out.keep K1).cells
    go_wp2_with fail
    refine (WF.out _ K1).mono ?_
    rintro e y1 ⟨rfl, hy1⟩
    subst hy1
    have HQ1 := Hid.mk (Keep.refl y1)
    go_wp2_with fail
    refine (refuse_c 1 _).mono ?_
    rintro e y2 ⟨rfl, q2⟩
    obtain ⟨b0, b1, b2, b3, b4, b5, b6, b7, b8, z0, z1, z2, z3, z4, z5, z6, z7, z8⟩ := z9 (HAB.out.keep (HQ1.out.trans q2))
    have HE := Hid.mk (MP.fin (a := ⟨1, 0, [], sta0, []⟩) (v := (.slice none 0 0)) HH.out HK1.out (HH.out.keep (HK1.out.trans (HQ1.out.trans q2))) (Stp.keep (HQ1.out.trans q2)) HGB.out (OwnS.nil _ _ _ _ _) (fr9 (.int .i64 1) (.int .i64 0) (str []) (.int .i64 0) (.int .i64 0) (.int .i64 0) (.int .i64 0) (.int .i64 0) (.slice none 0 0)))
    have HAZ := Hid.mk (arr9 (HAB.out.keep (HQ1.out.trans q2)) (.int .i64 1) (.int .i64 0) (str []) (.int .i64 0) (.int .i64 0) (.int .i64 0) (.int .i64 0) (.int .i64 0) (.slice none 0 0))
    clear q2
    go_wp2_with fail
    refine bodyPost_ret (v := .agg (ansC ⟨1, 0, [], sta0, []⟩ (.slice none 0 0)).toArray) (results_cell_row1 rfl _ _ gB 34 _ (0, 0) _ rfl HAZ.out Try.underlying34 rfl s34) rfl ?_
    rw [HV.out]
    exact HE.out
  | true =>
    have hg : getOK s.u s.hs oh 1 = bt (hat s.hs oh.toNat).flags 1 := by rw [get1 fl, ho]; rfl
    rw [hg] at hR
    clear hg
    obtain ⟨i, hi, hox, hox2⟩ := h.rel.idx ho
    have X := HX.of h.rel si hi
    have hfl := fl O[i]
    rw [hox2] at hR
    obtain ⟨g, c, hov, l1, l2, -⟩ := h.row hi
    subst hov
    have HWT : Hid (∀ W, Keep w W → Calls Try.prog 55 #[.pointer (some ⟨gm, 0, none⟩), .int .i64 oh] W fun e w' => e = .returned (.int .i64 i) ∧ w' = W) := Hid.mk (fun W (kk : Keep w W) => by rw [hox]; exact where_t (h.keep kk) hi)
    clear hox2 ho hox
    have HROW := Hid.mk (fun W (kk : Keep w W) => (h.keep kk).rowAt hi)
    have HTR := Hid.mk (fun W (kk : Keep w W) => (h.keep kk).tree.tr)
    have HKC := Hid.mk (fun W (kk : Keep w W) => kindOf_c (h.keep kk) X.nl)
    have HOFF := Hid.mk (fun W (M : MW B fp W gm gt s O (.slice (some ⟨g, 0, none⟩) O.length c)) z => M.setOff hi z)
    have HCUR := Hid.mk (fun W (M : MW B fp W gm gt s O (.slice (some ⟨g, 0, none⟩) O.length c)) z => M.setCur hi z)
    have i1 : (i : Int) < O.length := by omega
    have i2 : (0 : Int) ≤ i := by omega
    unfold maxLen at l2
    cases hbt : bt (hat s.hs O[i]).flags 1 with
    | false =>
      rw [if_pos hbt] at hR
      have HV := Hid.mk hR
      clear hR h si fl hfl X
      go_enter Try.func61, Try.ntmps61
      go_upto_region 1 with fail
      obtain ⟨w1, hw1⟩ : ∃ w1, w1 = (w.alloc (.cells (opC ⟨ok, oh, ofl, omo, on, oo, owh, op, op2, od⟩).toArray 37)).alloc (.cells #[.int .i64 0, .int .i64 0, str [], .int .i64 0, .int .i64 0, .int .i64 0, .int .i64 0, .int .i64 0, .slice none 0 0] 34) := ⟨_, rfl⟩
      rw [← hw1]
      have TWO : Two w w1 ⟨ok, oh, ofl, omo, on, oo, owh, op, op2, od⟩ := by rw [hw1]; exact Two.mk' w _
      obtain ⟨gA, hgA⟩ : ∃ g, g = w.heap.size := ⟨_, rfl⟩
      obtain ⟨gB, hgB⟩ : ∃ g, g = w.heap.size + 1 := ⟨_, rfl⟩
      have HGB : Hid (w.heap.size ≤ gB ∧ gB < w1.heap.size) := Hid.mk ⟨by omega, by rw [TWO.sz]; omega⟩
      have HAB : Hid (Arr w1 gB 34 zeroC) := Hid.mk (by rw [hgB]; exact TWO.b)
      have HAA : Hid (Arr w1 gA 37 (opC ⟨ok, oh, ofl, omo, on, oo, owh, op, op2, od⟩)) := Hid.mk (by rw [hgA]; exact TWO.a)
      have K1 := TWO.k
      have HK1 := Hid.mk K1
      have HNF : Hid (¬ fpM fp gm (.slice (some ⟨g, 0, none⟩) O.length c) gA ∧ ¬ fpM fp gm (.slice (some ⟨g, 0, none⟩) O.length c) gB ∧ gA ≠ gB ∧ gm ≠ gB ∧ gm ≠ gA) := Hid.mk ⟨fun a => by have := HH.out.flt a; omega, fun a => by have := HH.out.flt a; omega, by omega, fun e => by have := HH.out.flt (Or.inr (Or.inl rfl) : fpM fp gm (.slice (some ⟨g, 0, none⟩) O.length c) gm); omega, fun e => by have := HH.out.flt (Or.inr (Or.inl rfl) : fpM fp gm (.slice (some ⟨g, 0, none⟩) O.length c) gm); omega⟩
      rw [← hgB, ← hgA]
      clear hw1 TWO hgA hgB
      have a0 := HAA.out.cell 0
      have a1 := HAA.out.cell 1
      have a2 := HAA.out.cell 2
      have a3 := HAA.out.cell 3
      have a4 := HAA.out.cell 4
      have a5 := HAA.out.cell 5
      have a6 := HAA.out.cell 6
      have a7 := HAA.out.cell 7
      have a8 := HAA.out.cell 8
      have a9 := HAA.out.cell 9
      simp only [opC, List.getElem?_cons_zero, List.getElem?_cons_succ] at a0 a1 a2 a3 a4 a5 a6 a7 a8 a9
      obtain ⟨x0, x1⟩ := (HH.out.keep K1).cells
      obtain ⟨fz, r0, r1, r2, r3, r4, r5, r6⟩ := HROW.out _ K1
      go_wp2_with fail
      refine (HWT.out _ K1).mono ?_
      rintro e y1 ⟨rfl, hy1⟩
      subst hy1
      rw [hbt] at r2
      have HQ1 := Hid.mk (Keep.refl y1)
      go_wp2_with fail
      refine (refuse_c 1 _).mono ?_
      rintro e y2 ⟨rfl, q2⟩
      obtain ⟨b0, b1, b2, b3, b4, b5, b6, b7, b8, z0, z1, z2, z3, z4, z5, z6, z7, z8⟩ := z9 (HAB.out.keep (HQ1.out.trans q2))
      have HE := Hid.mk (MP.fin (a := ⟨1, 0, [], sta0, []⟩) (v := (.slice none 0 0)) HH.out HK1.out (HH.out.keep (HK1.out.trans (HQ1.out.trans q2))) (Stp.keep (HQ1.out.trans q2)) HGB.out (OwnS.nil _ _ _ _ _) (fr9 (.int .i64 1) (.int .i64 0) (str []) (.int .i64 0) (.int .i64 0) (.int .i64 0) (.int .i64 0) (.int .i64 0) (.slice none 0 0)))
      have HAZ := Hid.mk (arr9 (HAB.out.keep (HQ1.out.trans q2)) (.int .i64 1) (.int .i64 0) (str []) (.int .i64 0) (.int .i64 0) (.int .i64 0) (.int .i64 0) (.int .i64 0) (.slice none 0 0))
      clear q2
      go_wp2_with fail
      refine bodyPost_ret (v := .agg (ansC ⟨1, 0, [], sta0, []⟩ (.slice none 0 0)).toArray) (results_cell_row1 rfl _ _ gB 34 _ (0, 0) _ rfl HAZ.out Try.underlying34 rfl s34) rfl ?_
      rw [HV.out]
      exact HE.out
    | true =>
      rw [if_neg (by rw [hbt]; decide)] at hR
      by_cases hd : (at' s.T (hat s.hs O[i]).node).kind = 2
      · rw [if_neg (by rw [X.dir, decide_eq_true hd]; decide)] at hR
        rw [hd] at HKC
        by_cases hn : on < 1
        · rw [if_pos hn] at hR
          have HV := Hid.mk hR
          clear hR h si fl hfl X
          go_enter Try.func61, Try.ntmps61
          go_upto_region 1 with fail
          obtain ⟨w1, hw1⟩ : ∃ w1, w1 = (w.alloc (.cells (opC ⟨ok, oh, ofl, omo, on, oo, owh, op, op2, od⟩).toArray 37)).alloc (.cells #[.int .i64 0, .int .i64 0, str [], .int .i64 0, .int .i64 0, .int .i64 0, .int .i64 0, .int .i64 0, .slice none 0 0] 34) := ⟨_, rfl⟩
          rw [← hw1]
          have TWO : Two w w1 ⟨ok, oh, ofl, omo, on, oo, owh, op, op2, od⟩ := by rw [hw1]; exact Two.mk' w _
          obtain ⟨gA, hgA⟩ : ∃ g, g = w.heap.size := ⟨_, rfl⟩
          obtain ⟨gB, hgB⟩ : ∃ g, g = w.heap.size + 1 := ⟨_, rfl⟩
          have HGB : Hid (w.heap.size ≤ gB ∧ gB < w1.heap.size) := Hid.mk ⟨by omega, by rw [TWO.sz]; omega⟩
          have HAB : Hid (Arr w1 gB 34 zeroC) := Hid.mk (by rw [hgB]; exact TWO.b)
          have HAA : Hid (Arr w1 gA 37 (opC ⟨ok, oh, ofl, omo, on, oo, owh, op, op2, od⟩)) := Hid.mk (by rw [hgA]; exact TWO.a)
          have K1 := TWO.k
          have HK1 := Hid.mk K1
          have HNF : Hid (¬ fpM fp gm (.slice (some ⟨g, 0, none⟩) O.length c) gA ∧ ¬ fpM fp gm (.slice (some ⟨g, 0, none⟩) O.length c) gB ∧ gA ≠ gB ∧ gm ≠ gB ∧ gm ≠ gA) := Hid.mk ⟨fun a => by have := HH.out.flt a; omega, fun a => by have := HH.out.flt a; omega, by omega, fun e => by have := HH.out.flt (Or.inr (Or.inl rfl) : fpM fp gm (.slice (some ⟨g, 0, none⟩) O.length c) gm); omega, fun e => by have := HH.out.flt (Or.inr (Or.inl rfl) : fpM fp gm (.slice (some ⟨g, 0, none⟩) O.length c) gm); omega⟩
          rw [← hgB, ← hgA]
          clear hw1 TWO hgA hgB
          have a0 := HAA.out.cell 0
          have a1 := HAA.out.cell 1
          have a2 := HAA.out.cell 2
          have a3 := HAA.out.cell 3
          have a4 := HAA.out.cell 4
          have a5 := HAA.out.cell 5
          have a6 := HAA.out.cell 6
          have a7 := HAA.out.cell 7
          have a8 := HAA.out.cell 8
          have a9 := HAA.out.cell 9
          simp only [opC, List.getElem?_cons_zero, List.getElem?_cons_succ] at a0 a1 a2 a3 a4 a5 a6 a7 a8 a9
          obtain ⟨x0, x1⟩ := (HH.out.keep K1).cells
          obtain ⟨fz, r0, r1, r2, r3, r4, r5, r6⟩ := HROW.out _ K1
          go_wp2_with fail
          refine (HWT.out _ K1).mono ?_
          rintro e y1 ⟨rfl, hy1⟩
          subst hy1
          rw [hbt] at r2
          go_wp2_with fail
          refine (HKC.out _ K1).mono ?_
          rintro e y2 ⟨rfl, hy2⟩
          subst hy2
          have HQ1 := Hid.mk (Keep.refl y2)
          go_wp2_with fail
          refine (refuse_c 2 _).mono ?_
          rintro e y2 ⟨rfl, q2⟩
          obtain ⟨b0, b1, b2, b3, b4, b5, b6, b7, b8, z0, z1, z2, z3, z4, z5, z6, z7, z8⟩ := z9 (HAB.out.keep (HQ1.out.trans q2))
          have HE := Hid.mk (MP.fin (a := ⟨2, 0, [], sta0, []⟩) (v := (.slice none 0 0)) HH.out HK1.out (HH.out.keep (HK1.out.trans (HQ1.out.trans q2))) (Stp.keep (HQ1.out.trans q2)) HGB.out (OwnS.nil _ _ _ _ _) (fr9 (.int .i64 2) (.int .i64 0) (str []) (.int .i64 0) (.int .i64 0) (.int .i64 0) (.int .i64 0) (.int .i64 0) (.slice none 0 0)))
          have HAZ := Hid.mk (arr9 (HAB.out.keep (HQ1.out.trans q2)) (.int .i64 2) (.int .i64 0) (str []) (.int .i64 0) (.int .i64 0) (.int .i64 0) (.int .i64 0) (.int .i64 0) (.slice none 0 0))
          clear q2
          go_wp2_with fail
          refine bodyPost_ret (v := .agg (ansC ⟨2, 0, [], sta0, []⟩ (.slice none 0 0)).toArray) (results_cell_row1 rfl _ _ gB 34 _ (0, 0) _ rfl HAZ.out Try.underlying34 rfl s34) rfl ?_
          rw [HV.out]
          exact HE.out
        · rw [if_neg hn] at hR
          have hn1 : 0 ≤ on := by omega
          have hnl := X.nl
          have hcu := X.cur
          have lim := si.lim (by omega)
          have HPC := Hid.mk (fun W (kk : Keep w W) => page_c gt (hat s.hs O[i]).node (hat s.hs O[i]).cur on s.T W (h.keep kk).tree.tr lim.ok hnl hn1 (by omega) (fun x hx => by have := (si.t.keys _ x hx).2; omega))
          have HLT : O[i] < s.hs.length := by rw [h.rel.hl]; exact X.lt
          generalize pageF s.T (at' s.T (hat s.hs O[i]).node).edges (hat s.hs O[i]).cur on.toNat = PG at *
          have HV := Hid.mk hR
          clear lim
          clear hR h si fl hfl X
          go_enter Try.func61, Try.ntmps61
          go_upto_region 1 with fail
          obtain ⟨w1, hw1⟩ : ∃ w1, w1 = (w.alloc (.cells (opC ⟨ok, oh, ofl, omo, on, oo, owh, op, op2, od⟩).toArray 37)).alloc (.cells #[.int .i64 0, .int .i64 0, str [], .int .i64 0, .int .i64 0, .int .i64 0, .int .i64 0, .int .i64 0, .slice none 0 0] 34) := ⟨_, rfl⟩
          rw [← hw1]
          have TWO : Two w w1 ⟨ok, oh, ofl, omo, on, oo, owh, op, op2, od⟩ := by rw [hw1]; exact Two.mk' w _
          obtain ⟨gA, hgA⟩ : ∃ g, g = w.heap.size := ⟨_, rfl⟩
          obtain ⟨gB, hgB⟩ : ∃ g, g = w.heap.size + 1 := ⟨_, rfl⟩
          have HGB : Hid (w.heap.size ≤ gB ∧ gB < w1.heap.size) := Hid.mk ⟨by omega, by rw [TWO.sz]; omega⟩
          have HAB : Hid (Arr w1 gB 34 zeroC) := Hid.mk (by rw [hgB]; exact TWO.b)
          have HAA : Hid (Arr w1 gA 37 (opC ⟨ok, oh, ofl, omo, on, oo, owh, op, op2, od⟩)) := Hid.mk (by rw [hgA]; exact TWO.a)
          have K1 := TWO.k
          have HK1 := Hid.mk K1
          have HNF : Hid (¬ fpM fp gm (.slice (some ⟨g, 0, none⟩) O.length c) gA ∧ ¬ fpM fp gm (.slice (some ⟨g, 0, none⟩) O.length c) gB ∧ gA ≠ gB ∧ gm ≠ gB ∧ gm ≠ gA) := Hid.mk ⟨fun a => by have := HH.out.flt a; omega, fun a => by have := HH.out.flt a; omega, by omega, fun e => by have := HH.out.flt (Or.inr (Or.inl rfl) : fpM fp gm (.slice (some ⟨g, 0, none⟩) O.length c) gm); omega, fun e => by have := HH.out.flt (Or.inr (Or.inl rfl) : fpM fp gm (.slice (some ⟨g, 0, none⟩) O.length c) gm); omega⟩
          rw [← hgB, ← hgA]
          clear hw1 TWO hgA hgB
          have a0 := HAA.out.cell 0
          have a1 := HAA.out.cell 1
          have a2 := HAA.out.cell 2
          have a3 := HAA.out.cell 3
          have a4 := HAA.out.cell 4
          have a5 := HAA.out.cell 5
          have a6 := HAA.out.cell 6
          have a7 := HAA.out.cell 7
          have a8 := HAA.out.cell 8
          have a9 := HAA.out.cell 9
          simp only [opC, List.getElem?_cons_zero, List.getElem?_cons_succ] at a0 a1 a2 a3 a4 a5 a6 a7 a8 a9
          obtain ⟨x0, x1⟩ := (HH.out.keep K1).cells
          obtain ⟨fz, r0, r1, r2, r3, r4, r5, r6⟩ := HROW.out _ K1
          go_wp2_with fail
          refine (HWT.out _ K1).mono ?_
          rintro e y1 ⟨rfl, hy1⟩
          subst hy1
          rw [hbt] at r2
          go_wp2_with fail
          refine (HKC.out _ K1).mono ?_
          rintro e y2 ⟨rfl, hy2⟩
          subst hy2
          have HQ1 := Hid.mk (Keep.refl y2)
          go_upto_region 8 with fail
          go_cut [6] from 42 to 64 (fun v6 wx => ∃ a cc, v6 = .slice a PG.length cc ∧ PG.length ≤ cc ∧ cc ≤ maxLen ∧ DirO y2.heap.size wx (.slice a PG.length cc) PG ∧ Keep y2 wx)
          case first =>
            have HSK : Hid (∀ W : World, Keep y2 W → W.cell? ⟨gm, 0, none⟩ = some (.pointer (some ⟨gt, 0, none⟩)) ∧ W.cell? ⟨gm, 1, none⟩ = some (.slice (some ⟨g, 0, none⟩) O.length c) ∧ W.cell? ⟨g, i * 7 + 1, none⟩ = some (.int .i64 ((hat s.hs O[i]).node : Nat)) ∧ W.cell? ⟨g, i * 7 + 6, none⟩ = some (str (hat s.hs O[i]).cur) ∧ W.cell? ⟨gA, 4, none⟩ = some (.int .i64 on)) := Hid.mk (fun W kk => ⟨kk.cell x0, kk.cell x1, kk.cell r1, kk.cell r6, kk.cell a4⟩)
            go_region_held3 (fun W : World => W.cell? ⟨gm, 0, none⟩ = some (.pointer (some ⟨gt, 0, none⟩)) ∧ W.cell? ⟨gm, 1, none⟩ = some (.slice (some ⟨g, 0, none⟩) O.length c) ∧ W.cell? ⟨g, i * 7 + 1, none⟩ = some (.int .i64 ((hat s.hs O[i]).node : Nat)) ∧ W.cell? ⟨g, i * 7 + 6, none⟩ = some (str (hat s.hs O[i]).cur) ∧ W.cell? ⟨gA, 4, none⟩ = some (.int .i64 on))
              (with_reducible first | assumption | exact ⟨x0, x1, r1, r6, a4⟩ | exact HSK.out _ (Keep.refl y2).drew | exact HSK.out _ Q2)
              ((go_at_call 83; refine (HPC.out _ (HK1.out.trans (Keep.refl y2).drew)).mono ?_; rintro x y ⟨pv, rfl, dO, q2⟩; have Q2 := (Keep.refl y2).drew.trans q2; have HDO : Hid (DirO y2.heap.size y pv PG) := Hid.mk dO; obtain ⟨pa, pc, rfl, p1, p2⟩ := dO.slice; clear dO))
            go_wp2_with fail
            go_meet
            case rel => exact ⟨pa, pc, rfl, p1, p2, HDO.out, Q2⟩
          case rest =>
            obtain ⟨pa, pc, rfl, p1, p2, dO, q4⟩ := hcut
            obtain ⟨y4, hy4⟩ : ∃ y4, y4 = wc := ⟨_, rfl⟩
            subst hy4
            have HQ4 := Hid.mk q4
            have HDO := Hid.mk dO
            have HM0 := Hid.mk (HH.out.keep (HK1.out.trans q4))
            unfold maxLen at p2
            clear dO q4 x0 x1 r0 r1 r2 r3 r4 r5 r6 fz a0 a1 a2 a3 a4 a5 a6 a7 a8 a9
            go_wp2_with fail
            go_loopg [7] PG.length (fun gk v7 wr => ∃ k2 : Nat, k2 + gk = PG.length ∧ v7 = .int .i64 k2 ∧ MW B fp wr gm gt ⟨s.u, s.hs.set O[i] { hat s.hs O[i] with cur := lastK (hat s.hs O[i]).cur (PG.take k2) }, s.T⟩ O (.slice (some ⟨g, 0, none⟩) O.length c) ∧ DirO y2.heap.size wr (.slice pa PG.length pc) PG ∧ Stp (fpM fp gm (.slice (some ⟨g, 0, none⟩) O.length c)) (fpM fp gm (.slice (some ⟨g, 0, none⟩) O.length c)) y2 wr)
            case atStart => exact ⟨0, by omega, rfl, by rw [List.take_zero, lastK_nil, hat_set_self HLT]; exact HM0.out, HDO.out, Stp.keep HQ4.out⟩
            case round =>
              obtain ⟨k2, hk2, rfl, Mk, dk, sk⟩ := hrel
              have HKK := Hid.mk hk2
              obtain ⟨u0, u1⟩ := Mk.cells
              obtain ⟨fzk, -, -, -, -, -, -, v6⟩ := Mk.rowAt hi
              have f6 := fzk (i * 7 + 6)
              have HMk := Hid.mk Mk
              have Hdk := Hid.mk dk
              have Hsk := Hid.mk sk
              by_cases hlt : k2 < PG.length
              · have j1 : (k2 : Int) < PG.length := by omega
                have j2 : (0 : Int) ≤ k2 := by omega
                obtain ⟨gp, cp, hgp, -, -⟩ := dk.shape (fun e => by rw [e] at hlt; simp at hlt)
                injection hgp with hg1 hg2 hg3
                subst hg1 hg3
                have gd := (dk.get rfl hlt).1
                obtain ⟨M2, s2⟩ := Mk.setCur hi PG[k2].key
                have HM2 : Hid (MW B fp (wr.setCell ⟨g, i * 7 + 6, none⟩ (str PG[k2].key)) gm gt ⟨s.u, s.hs.set O[i] { hat s.hs O[i] with cur := lastK (hat s.hs O[i]).cur (PG.take (k2 + 1)) }, s.T⟩ O (.slice (some ⟨g, 0, none⟩) O.length c)) := Hid.mk (by
                  rw [lastK_take hlt]
                  simp only [hat_set HLT, List.set_set] at M2
                  exact M2)
                have HS2 := Hid.mk (sk.trans s2)
                have HD2 : Hid (DirO y2.heap.size (wr.setCell ⟨g, i * 7 + 6, none⟩ (str PG[k2].key)) (.slice (some ⟨gp, 0, none⟩) PG.length pc) PG) := Hid.mk (dk.fr (P := fun q => q = g) (Fr.setCell (p := ⟨g, i * 7 + 6, none⟩) (Fr.refl (fun q => q = g) wr) (Or.inl rfl) _) (fun q hq e => by
                  have h1 := (dk.lt q hq).1
                  have h2 := (HH.out.flt (Or.inr (Or.inr rfl) : fpM fp gm (.slice (some ⟨g, 0, none⟩) O.length c) g)).2
                  have h3 := HK1.out.size
                  omega))
                clear M2 s2 Mk dk sk fzk hk2
                generalize PG[k2].key = ky at *
                go_upto_region 12 with fail
                go_region
                generalize wr.setCell ⟨g, i * 7 + 6, none⟩ (str ky) = w6 at *
                go_wp2_with fail
                go_roundg (gk - 1)
                case measure => have := HKK.out; omega
                case rel => exact ⟨k2 + 1, by have := HKK.out; omega, by go_num, HM2.out.keep (Keep.refl w6).drew, OwnS.keep HD2.out (Keep.refl w6).drew, HS2.out.trans (Stp.keep (Keep.refl w6).drew)⟩
              · have j1 : ¬ (k2 : Int) < PG.length := by omega
                have hkP : k2 = PG.length := by have := HKK.out; omega
                have HTK : Hid (PG.take k2 = PG) := Hid.mk (by rw [hkP, List.take_length])
                have HABk := Hid.mk (sk.1.arr HNF.out.2.1 HAB.out)
                rw [HTK.out] at HMk
                clear Mk dk sk fzk hk2 hkP u0 u1 v6 f6
                go_upto_region 13 with fail
                obtain ⟨b0, b1, b2, b3, b4, b5, b6, b7, b8, z0, z1, z2, z3, z4, z5, z6, z7, z8⟩ := z9 HABk.out
                have HE := Hid.mk (MP.fin (a := ⟨0, (PG.length : Nat), [], sta0, PG⟩) (v := (.slice pa PG.length pc)) HH.out HK1.out HMk.out Hsk.out HGB.out Hdk.out (fr9 (.int .i64 0) (.int .i64 (PG.length : Nat)) (str []) (.int .i64 0) (.int .i64 0) (.int .i64 0) (.int .i64 0) (.int .i64 0) (.slice pa PG.length pc)))
                have HAZ := Hid.mk (arr9 HABk.out (.int .i64 0) (.int .i64 (PG.length : Nat)) (str []) (.int .i64 0) (.int .i64 0) (.int .i64 0) (.int .i64 0) (.int .i64 0) (.slice pa PG.length pc))
                go_wp2_with fail
                refine bodyPost_ret (v := .agg (ansC ⟨0, (PG.length : Nat), [], sta0, PG⟩ (.slice pa PG.length pc)).toArray) (results_cell_row1 rfl _ _ gB 34 _ (0, 0) _ rfl HAZ.out Try.underlying34 rfl s34) rfl ?_
                rw [HV.out]
                exact HE.out
      · rw [if_pos (by rw [X.dir]; simpa using hd)] at hR
        have n2 : (((at' s.T (hat s.hs O[i]).node).kind : Int) != 2) = true := by simp; omega
        have HV := Hid.mk hR
        clear hR h si fl hfl X
        go_enter Try.func61, Try.ntmps61
        go_upto_region 1 with fail
        obtain ⟨w1, hw1⟩ : ∃ w1, w1 = (w.alloc (.cells (opC ⟨ok, oh, ofl, omo, on, oo, owh, op, op2, od⟩).toArray 37)).alloc (.cells #[.int .i64 0, .int .i64 0, str [], .int .i64 0, .int .i64 0, .int .i64 0, .int .i64 0, .int .i64 0, .slice none 0 0] 34) := ⟨_, rfl⟩
        rw [← hw1]
        have TWO : Two w w1 ⟨ok, oh, ofl, omo, on, oo, owh, op, op2, od⟩ := by rw [hw1]; exact Two.mk' w _
        obtain ⟨gA, hgA⟩ : ∃ g, g = w.heap.size := ⟨_, rfl⟩
        obtain ⟨gB, hgB⟩ : ∃ g, g = w.heap.size + 1 := ⟨_, rfl⟩
        have HGB : Hid (w.heap.size ≤ gB ∧ gB < w1.heap.size) := Hid.mk ⟨by omega, by rw [TWO.sz]; omega⟩
        have HAB : Hid (Arr w1 gB 34 zeroC) := Hid.mk (by rw [hgB]; exact TWO.b)
        have HAA : Hid (Arr w1 gA 37 (opC ⟨ok, oh, ofl, omo, on, oo, owh, op, op2, od⟩)) := Hid.mk (by rw [hgA]; exact TWO.a)
        have K1 := TWO.k
        have HK1 := Hid.mk K1
        have HNF : Hid (¬ fpM fp gm (.slice (some ⟨g, 0, none⟩) O.length c) gA ∧ ¬ fpM fp gm (.slice (some ⟨g, 0, none⟩) O.length c) gB ∧ gA ≠ gB ∧ gm ≠ gB ∧ gm ≠ gA) := Hid.mk ⟨fun a => by have := HH.out.flt a; omega, fun a => by have := HH.out.flt a; omega, by omega, fun e => by have := HH.out.flt (Or.inr (Or.inl rfl) : fpM fp gm (.slice (some ⟨g, 0, none⟩) O.length c) gm); omega, fun e => by have := HH.out.flt (Or.inr (Or.inl rfl) : fpM fp gm (.slice (some ⟨g, 0, none⟩) O.length c) gm); omega⟩
        rw [← hgB, ← hgA]
        clear hw1 TWO hgA hgB
        have a0 := HAA.out.cell 0
        have a1 := HAA.out.cell 1
        have a2 := HAA.out.cell 2
        have a3 := HAA.out.cell 3
        have a4 := HAA.out.cell 4
        have a5 := HAA.out.cell 5
        have a6 := HAA.out.cell 6
        have a7 := HAA.out.cell 7
        have a8 := HAA.out.cell 8
        have a9 := HAA.out.cell 9
        simp only [opC, List.getElem?_cons_zero, List.getElem?_cons_succ] at a0 a1 a2 a3 a4 a5 a6 a7 a8 a9
        obtain ⟨x0, x1⟩ := (HH.out.keep K1).cells
        obtain ⟨fz, r0, r1, r2, r3, r4, r5, r6⟩ := HROW.out _ K1
        go_wp2_with fail
        refine (HWT.out _ K1).mono ?_
        rintro e y1 ⟨rfl, hy1⟩
        subst hy1
        rw [hbt] at r2
        go_wp2_with fail
        refine (HKC.out _ K1).mono ?_
        rintro e y2 ⟨rfl, hy2⟩
        subst hy2
        have HQ1 := Hid.mk (Keep.refl y2)
        go_wp2_with fail
        refine (refuse_c 7 _).mono ?_
        rintro e y2 ⟨rfl, q2⟩
        obtain ⟨b0, b1, b2, b3, b4, b5, b6, b7, b8, z0, z1, z2, z3, z4, z5, z6, z7, z8⟩ := z9 (HAB.out.keep (HQ1.out.trans q2))
        have HE := Hid.mk (MP.fin (a := ⟨7, 0, [], sta0, []⟩) (v := (.slice none 0 0)) HH.out HK1.out (HH.out.keep (HK1.out.trans (HQ1.out.trans q2))) (Stp.keep (HQ1.out.trans q2)) HGB.out (OwnS.nil _ _ _ _ _) (fr9 (.int .i64 7) (.int .i64 0) (str []) (.int .i64 0) (.int .i64 0) (.int .i64 0) (.int .i64 0) (.int .i64 0) (.slice none 0 0)))
        have HAZ := Hid.mk (arr9 (HAB.out.keep (HQ1.out.trans q2)) (.int .i64 7) (.int .i64 0) (str []) (.int .i64 0) (.int .i64 0) (.int .i64 0) (.int .i64 0) (.int .i64 0) (.slice none 0 0))
        clear q2
        go_wp2_with fail
        refine bodyPost_ret (v := .agg (ansC ⟨7, 0, [], sta0, []⟩ (.slice none 0 0)).toArray) (results_cell_row1 rfl _ _ gB 34 _ (0, 0) _ rfl HAZ.out Try.underlying34 rfl s34) rfl ?_
        rw [HV.out]
        exact HE.out
end Go.Proofs.Qxb6500767a
