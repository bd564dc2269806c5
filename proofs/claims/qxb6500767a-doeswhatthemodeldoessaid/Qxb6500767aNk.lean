/- unionvfsm: write. -/
import Derived.Test.Qxb6500767aNe
namespace Go.Proofs.Qxb6500767a
open Go.RowKit Go.Qm
set_option linter.unusedVariables false
set_option linter.unusedSimpArgs false
attribute [local go_sem ↓] Go.wp_at_zero Go.wp_at_succ
set_option maxRecDepth 6000 in
set_option maxHeartbeats 8000000 in
theorem mWrite_c {B gm gt k : Nat} {fp : Nat → Prop} {w : World} {s : Stt} {O : List Nat} {ov : Value} (o : OpV) (h : MW B fp w gm gt s O ov) (si : SI k s.u s.hs s.T) (hk : k ≤ 70000) (hp : o.path.length ≤ 100000) (hp2 : o.path2.length ≤ 100000) (hdt : o.data.length ≤ 100000) (fl : FL s.hs) :
    Calls Try.prog 53 #[.pointer (some ⟨gm, 0, none⟩), .agg (opC o).toArray] w fun e w' => MP B fp w gm gt ov ⟨(wrF s.u s.hs s.T o.h o.data).2.2.2, (wrF s.u s.hs s.T o.h o.data).2.2.1, [], sta0, []⟩ ⟨s.u, (wrF s.u s.hs s.T o.h o.data).1, (wrF s.u s.hs s.T o.h o.data).2.1⟩ e w' := by
  have HH := Hid.mk h
  obtain ⟨ok, oh, ofl, omo, on, oo, owh, op, op2, od⟩ := o
  simp only at hp hp2 hdt ⊢
  obtain ⟨R, hR⟩ : ∃ R, R = wrF s.u s.hs s.T oh od := ⟨_, rfl⟩
  rw [← hR]
  unfold wrF at hR
  cases ho : opn s.u oh with
  | false =>
    have hg : getOK s.u s.hs oh 2 = false := by rw [get2 fl, ho]; rfl
    rw [if_pos hg] at hR
    have HV := Hid.mk hR
    have WF := Hid.mk (fun W (kk : Keep w W) => where_f (h.keep kk) ho)
    clear hR hg ho h
    go_enter Try.func53, Try.ntmps53
    go_upto_region 1 with fail
    obtain ⟨w1, hw1⟩ : ∃ w1, w1 = (w.alloc (.cells (opC ⟨ok, oh, ofl, omo, on, oo, owh, op, op2, od⟩).toArray 37)).alloc (.cells #[.int .i64 0, .int .i64 0, str [], .int .i64 0, .int .i64 0, .int .i64 0, .int .i64 0, .int .i64 0, .slice none 0 0] 34) := ⟨_, rfl⟩
    rw [← hw1]
    have TWO : Two w w1 ⟨ok, oh, ofl, omo, on, oo, owh, op, op2, od⟩ := by rw [hw1]; exact Two.mk' w _
    obtain ⟨gA, hgA⟩ : ∃ g, g = w.heap.size := ⟨_, rfl⟩
    obtain ⟨gB, hgB⟩ : ∃ g, g = w.heap.size + 1 := ⟨_, rfl⟩
    have HGB : Hid (w.heap.size ≤ gB ∧ gB < w1.heap.size) := Hid.mk ⟨by omega, by rw [TWO.sz]; omega⟩
    have HAB : Hid (Arr w1 gB 34 zeroC) := Hid.mk (by rw [hgB]; exact TWO.b)
    have HAA : Hid (Arr w1 gA 37 (opC ⟨ok, oh, ofl, omo, on, oo, owh, op, op2, od⟩)) := Hid.mk (by rw [hgA]; exact TWO.a)
    have K1 := TWO.k
    have HK1 := Hid.mk K1
    have HNF : Hid (¬ fpM fp gm ov gA ∧ ¬ fpM fp gm ov gB ∧ gA ≠ gB ∧ gm ≠ gB ∧ gm ≠ gA) := Hid.mk ⟨fun a => by have := HH.out.flt a; omega, fun a => by have := HH.out.flt a; omega, by omega, fun e => by have := HH.out.flt (Or.inr (Or.inl rfl) : fpM fp gm ov gm); omega, fun e => by have := HH.out.flt (Or.inr (Or.inl rfl) : fpM fp gm ov gm); omega⟩
    rw [← hgB, ← hgA]
    clear hw1 TWO hgA hgB
    have a0 := HAA.out.cell 0
    have a1 := HAA.out.cell 1
    have a2 := HAA.out.cell 2
    have a3 := HAA.out.cell 3
    have a4 := HAA.out.cell 4
    have a5 := HAA.out.cell 5
    have a6 := HAA.out.cell 6
    have a7 := HAA.out.cell 7
    have a8 := HAA.out.cell 8
    have a9 := HAA.out.cell 9
    simp only [opC, List.getElem?_cons_zero, List.getElem?_cons_succ] at a0 a1 a2 a3 a4 a5 a6 a7 a8 a9
    obtain ⟨x0, x1⟩ := (HH.out.keep K1).cells
    go_wp2_with fail
    refine (WF.out _ K1).mono ?_
    rintro e y1 ⟨rfl, hy1⟩
    subst hy1
    have HQ1 := Hid.mk (Keep.refl y1)
    go_wp2_with fail
    refine (refuse_c 1 _).mono ?_
    rintro e y2 ⟨rfl, q2⟩
    obtain ⟨b0, b1, b2, b3, b4, b5, b6, b7, b8, z0, z1, z2, z3, z4, z5, z6, z7, z8⟩ := z9 (HAB.out.keep (HQ1.out.trans q2))
    have HE := Hid.mk (MP.fin (a := ⟨1, 0, [], sta0, []⟩) (v := (.slice none 0 0)) HH.out HK1.out (HH.out.keep (HK1.out.trans (HQ1.out.trans q2))) (Stp.keep (HQ1.out.trans q2)) HGB.out (OwnS.nil _ _ _ _ _) (fr9 (.int .i64 1) (.int .i64 0) (str []) (.int .i64 0) (.int .i64 0) (.int .i64 0) (.int .i64 0) (.int .i64 0) (.slice none 0 0)))
    have HAZ := Hid.mk (arr9 (HAB.out.keep (HQ1.out.trans q2)) (.int .i64 1) (.int .i64 0) (str []) (.int .i64 0) (.int .i64 0) (.int .i64 0) (.int .i64 0) (.int .i64 0) (.slice none 0 0))
    clear q2
    go_wp2_with fail
    refine bodyPost_ret (v := .agg (ansC ⟨1, 0, [], sta0, []⟩ (.slice none 0 0)).toArray) (results_cell_row1 rfl _ _ gB 34 _ (0, 0) _ rfl HAZ.out Try.underlying34 rfl s34) rfl ?_
    rw [HV.out]
    exact HE.out
  | true =>
    have hg : getOK s.u s.hs oh 2 = bt (hat s.hs oh.toNat).flags 2 := by rw [get2 fl, ho]; rfl
    rw [hg] at hR
    clear hg
    obtain ⟨i, hi, hox, hox2⟩ := h.rel.idx ho
    have X := HX.of h.rel si hi
    have hfl := fl O[i]
    rw [hox2] at hR
    obtain ⟨g, c, hov, l1, l2, -⟩ := h.row hi
    subst hov
    have HWT : Hid (∀ W, Keep w W → Calls Try.prog 55 #[.pointer (some ⟨gm, 0, none⟩), .int .i64 oh] W fun e w' => e = .returned (.int .i64 i) ∧ w' = W) := Hid.mk (fun W (kk : Keep w W) => by rw [hox]; exact where_t (h.keep kk) hi)
    clear hox2 ho hox
    have HROW := Hid.mk (fun W (kk : Keep w W) => (h.keep kk).rowAt hi)
    have HTR := Hid.mk (fun W (kk : Keep w W) => (h.keep kk).tree.tr)
    have HKC := Hid.mk (fun W (kk : Keep w W) => kindOf_c (h.keep kk) X.nl)
    have HOFF := Hid.mk (fun W (M : MW B fp W gm gt s O (.slice (some ⟨g, 0, none⟩) O.length c)) z => M.setOff hi z)
    have HCUR := Hid.mk (fun W (M : MW B fp W gm gt s O (.slice (some ⟨g, 0, none⟩) O.length c)) z => M.setCur hi z)
    have i1 : (i : Int) < O.length := by omega
    have i2 : (0 : Int) ≤ i := by omega
    unfold maxLen at l2
    have hD := si.t.data (hat s.hs O[i]).node
    cases hbt : bt (hat s.hs O[i]).flags 2 with
    | false =>
      rw [if_pos hbt] at hR
      have HV := Hid.mk hR
      clear hR h si fl hfl X
      go_enter Try.func53, Try.ntmps53
      go_upto_region 1 with fail
      obtain ⟨w1, hw1⟩ : ∃ w1, w1 = (w.alloc (.cells (opC ⟨ok, oh, ofl, omo, on, oo, owh, op, op2, od⟩).toArray 37)).alloc (.cells #[.int .i64 0, .int .i64 0, str [], .int .i64 0, .int .i64 0, .int .i64 0, .int .i64 0, .int .i64 0, .slice none 0 0] 34) := ⟨_, rfl⟩
      rw [← hw1]
      have TWO : Two w w1 ⟨ok, oh, ofl, omo, on, oo, owh, op, op2, od⟩ := by rw [hw1]; exact Two.mk' w _
      obtain ⟨gA, hgA⟩ : ∃ g, g = w.heap.size := ⟨_, rfl⟩
      obtain ⟨gB, hgB⟩ : ∃ g, g = w.heap.size + 1 := ⟨_, rfl⟩
      have HGB : Hid (w.heap.size ≤ gB ∧ gB < w1.heap.size) := Hid.mk ⟨by omega, by rw [TWO.sz]; omega⟩
      have HAB : Hid (Arr w1 gB 34 zeroC) := Hid.mk (by rw [hgB]; exact TWO.b)
      have HAA : Hid (Arr w1 gA 37 (opC ⟨ok, oh, ofl, omo, on, oo, owh, op, op2, od⟩)) := Hid.mk (by rw [hgA]; exact TWO.a)
      have K1 := TWO.k
      have HK1 := Hid.mk K1
      have HNF : Hid (¬ fpM fp gm (.slice (some ⟨g, 0, none⟩) O.length c) gA ∧ ¬ fpM fp gm (.slice (some ⟨g, 0, none⟩) O.length c) gB ∧ gA ≠ gB ∧ gm ≠ gB ∧ gm ≠ gA) := Hid.mk ⟨fun a => by have := HH.out.flt a; omega, fun a => by have := HH.out.flt a; omega, by omega, fun e => by have := HH.out.flt (Or.inr (Or.inl rfl) : fpM fp gm (.slice (some ⟨g, 0, none⟩) O.length c) gm); omega, fun e => by have := HH.out.flt (Or.inr (Or.inl rfl) : fpM fp gm (.slice (some ⟨g, 0, none⟩) O.length c) gm); omega⟩
      rw [← hgB, ← hgA]
      clear hw1 TWO hgA hgB
      have a0 := HAA.out.cell 0
      have a1 := HAA.out.cell 1
      have a2 := HAA.out.cell 2
      have a3 := HAA.out.cell 3
      have a4 := HAA.out.cell 4
      have a5 := HAA.out.cell 5
      have a6 := HAA.out.cell 6
      have a7 := HAA.out.cell 7
      have a8 := HAA.out.cell 8
      have a9 := HAA.out.cell 9
      simp only [opC, List.getElem?_cons_zero, List.getElem?_cons_succ] at a0 a1 a2 a3 a4 a5 a6 a7 a8 a9
      obtain ⟨x0, x1⟩ := (HH.out.keep K1).cells
      obtain ⟨fz, r0, r1, r2, r3, r4, r5, r6⟩ := HROW.out _ K1
      go_wp2_with fail
      refine (HWT.out _ K1).mono ?_
      rintro e y1 ⟨rfl, hy1⟩
      subst hy1
      rw [hbt] at r3
      have HQ1 := Hid.mk (Keep.refl y1)
      go_wp2_with fail
      refine (refuse_c 1 _).mono ?_
      rintro e y2 ⟨rfl, q2⟩
      obtain ⟨b0, b1, b2, b3, b4, b5, b6, b7, b8, z0, z1, z2, z3, z4, z5, z6, z7, z8⟩ := z9 (HAB.out.keep (HQ1.out.trans q2))
      have HE := Hid.mk (MP.fin (a := ⟨1, 0, [], sta0, []⟩) (v := (.slice none 0 0)) HH.out HK1.out (HH.out.keep (HK1.out.trans (HQ1.out.trans q2))) (Stp.keep (HQ1.out.trans q2)) HGB.out (OwnS.nil _ _ _ _ _) (fr9 (.int .i64 1) (.int .i64 0) (str []) (.int .i64 0) (.int .i64 0) (.int .i64 0) (.int .i64 0) (.int .i64 0) (.slice none 0 0)))
      have HAZ := Hid.mk (arr9 (HAB.out.keep (HQ1.out.trans q2)) (.int .i64 1) (.int .i64 0) (str []) (.int .i64 0) (.int .i64 0) (.int .i64 0) (.int .i64 0) (.int .i64 0) (.slice none 0 0))
      clear q2
      go_wp2_with fail
      refine bodyPost_ret (v := .agg (ansC ⟨1, 0, [], sta0, []⟩ (.slice none 0 0)).toArray) (results_cell_row1 rfl _ _ gB 34 _ (0, 0) _ rfl HAZ.out Try.underlying34 rfl s34) rfl ?_
      rw [HV.out]
      exact HE.out
    | true =>
      rw [if_neg (by rw [hbt]; decide)] at hR
      have hdr := hfl.2.2 hbt
      rw [if_neg (by rw [hdr]; decide)] at hR
      by_cases hod : od = []
      · rw [if_pos hod] at hR
        have HV := Hid.mk hR
        have q0 : (od == ([] : List UInt8)) = true := by simpa using hod
        clear hod
        clear hR h si fl hfl X
        go_enter Try.func53, Try.ntmps53
        go_upto_region 1 with fail
        obtain ⟨w1, hw1⟩ : ∃ w1, w1 = (w.alloc (.cells (opC ⟨ok, oh, ofl, omo, on, oo, owh, op, op2, od⟩).toArray 37)).alloc (.cells #[.int .i64 0, .int .i64 0, str [], .int .i64 0, .int .i64 0, .int .i64 0, .int .i64 0, .int .i64 0, .slice none 0 0] 34) := ⟨_, rfl⟩
        rw [← hw1]
        have TWO : Two w w1 ⟨ok, oh, ofl, omo, on, oo, owh, op, op2, od⟩ := by rw [hw1]; exact Two.mk' w _
        obtain ⟨gA, hgA⟩ : ∃ g, g = w.heap.size := ⟨_, rfl⟩
        obtain ⟨gB, hgB⟩ : ∃ g, g = w.heap.size + 1 := ⟨_, rfl⟩
        have HGB : Hid (w.heap.size ≤ gB ∧ gB < w1.heap.size) := Hid.mk ⟨by omega, by rw [TWO.sz]; omega⟩
        have HAB : Hid (Arr w1 gB 34 zeroC) := Hid.mk (by rw [hgB]; exact TWO.b)
        have HAA : Hid (Arr w1 gA 37 (opC ⟨ok, oh, ofl, omo, on, oo, owh, op, op2, od⟩)) := Hid.mk (by rw [hgA]; exact TWO.a)
        have K1 := TWO.k
        have HK1 := Hid.mk K1
        have HNF : Hid (¬ fpM fp gm (.slice (some ⟨g, 0, none⟩) O.length c) gA ∧ ¬ fpM fp gm (.slice (some ⟨g, 0, none⟩) O.length c) gB ∧ gA ≠ gB ∧ gm ≠ gB ∧ gm ≠ gA) := Hid.mk ⟨fun a => by have := HH.out.flt a; omega, fun a => by have := HH.out.flt a; omega, by omega, fun e => by have := HH.out.flt (Or.inr (Or.inl rfl) : fpM fp gm (.slice (some ⟨g, 0, none⟩) O.length c) gm); omega, fun e => by have := HH.out.flt (Or.inr (Or.inl rfl) : fpM fp gm (.slice (some ⟨g, 0, none⟩) O.length c) gm); omega⟩
        rw [← hgB, ← hgA]
        clear hw1 TWO hgA hgB
        have a0 := HAA.out.cell 0
        have a1 := HAA.out.cell 1
        have a2 := HAA.out.cell 2
        have a3 := HAA.out.cell 3
        have a4 := HAA.out.cell 4
        have a5 := HAA.out.cell 5
        have a6 := HAA.out.cell 6
        have a7 := HAA.out.cell 7
        have a8 := HAA.out.cell 8
        have a9 := HAA.out.cell 9
        simp only [opC, List.getElem?_cons_zero, List.getElem?_cons_succ] at a0 a1 a2 a3 a4 a5 a6 a7 a8 a9
        obtain ⟨x0, x1⟩ := (HH.out.keep K1).cells
        obtain ⟨fz, r0, r1, r2, r3, r4, r5, r6⟩ := HROW.out _ K1
        go_wp2_with fail
        refine (HWT.out _ K1).mono ?_
        rintro e y1 ⟨rfl, hy1⟩
        subst hy1
        rw [hbt] at r3
        have HQ1 := Hid.mk (Keep.refl y1)
        go_upto_region 5 with fail
        obtain ⟨b0, b1, b2, b3, b4, b5, b6, b7, b8, z0, z1, z2, z3, z4, z5, z6, z7, z8⟩ := z9 HAB.out
        have HE := Hid.mk (MP.fin (a := ⟨0, 0, [], sta0, []⟩) (v := (.slice none 0 0)) HH.out HK1.out (HH.out.keep HK1.out) (Stp.keep (Keep.refl y1)) HGB.out (OwnS.nil _ _ _ _ _) (fr9 (.int .i64 0) (.int .i64 0) (str []) (.int .i64 0) (.int .i64 0) (.int .i64 0) (.int .i64 0) (.int .i64 0) (.slice none 0 0)))
        have HAZ := Hid.mk (arr9 HAB.out (.int .i64 0) (.int .i64 0) (str []) (.int .i64 0) (.int .i64 0) (.int .i64 0) (.int .i64 0) (.int .i64 0) (.slice none 0 0))
        go_wp2_with fail
        refine bodyPost_ret (v := .agg (ansC ⟨0, 0, [], sta0, []⟩ (.slice none 0 0)).toArray) (results_cell_row1 rfl _ _ gB 34 _ (0, 0) _ rfl HAZ.out Try.underlying34 rfl s34) rfl ?_
        rw [HV.out]
        exact HE.out
      · rw [if_neg hod] at hR
        have q0 : (od == ([] : List UInt8)) = false := by simpa using hod
        have hkd : (at' s.T (hat s.hs O[i]).node).kind = 1 := by
          rcases X.kd with e | e
          · exact e
          · have := X.dir; rw [e, hdr] at this; simp at this
        have hof : ((hat s.hs O[i]).off : Int) ≤ 1048576 := by have := X.off; omega
        have hof0 : (0 : Int) ≤ ((hat s.hs O[i]).off : Int) := by omega
        have hnl := X.nl
        have hwat : watF s.T (hat s.hs O[i]) = if bt (hat s.hs O[i]).flags 32 = true then (at' s.T (hat s.hs O[i]).node).data.length else (hat s.hs O[i]).off := by
          unfold watF bt statF
          simp only
          rw [if_neg (by omega : ¬ (at' s.T (hat s.hs O[i]).node).kind = 2)]
          cases nob (hat s.hs O[i]).flags 32 <;> rfl
        have hF : watF s.T (hat s.hs O[i]) ≤ 1048576 := by rw [hwat]; split <;> omega
        obtain ⟨F, hFe⟩ : ∃ F, F = watF s.T (hat s.hs O[i]) := ⟨_, rfl⟩
        rw [← hFe] at hR hF hwat
        have hFi : (F : Int) ≤ 1048576 := by omega
        have hdi : (od.length : Int) ≤ 100000 := by omega
        have HWA := Hid.mk (fun W (kk : Keep w W) => writeAt_c B gt (hat s.hs O[i]).node F od fp s.T W (h.keep kk).tree hnl (by have := si.t.len; omega) (by have := si.t.ub; omega) (by omega) (by omega) (by omega) hkd)
        generalize writeT s.T (hat s.hs O[i]).node F od = WR at *
        obtain ⟨T', rr⟩ := WR
        simp only at hR HWA
        clear hFe hF
        cases hbe : bt (hat s.hs O[i]).flags 32 with
        | false =>
          rw [if_neg (by rw [hbe]; decide)] at hwat
          have HWT2 := Hid.mk hwat
          have HR0 := Hid.mk hR
          clear hod hdr hkd hwat
          clear hR h si fl hfl X
          go_enter Try.func53, Try.ntmps53
          go_upto_region 1 with fail
          obtain ⟨w1, hw1⟩ : ∃ w1, w1 = (w.alloc (.cells (opC ⟨ok, oh, ofl, omo, on, oo, owh, op, op2, od⟩).toArray 37)).alloc (.cells #[.int .i64 0, .int .i64 0, str [], .int .i64 0, .int .i64 0, .int .i64 0, .int .i64 0, .int .i64 0, .slice none 0 0] 34) := ⟨_, rfl⟩
          rw [← hw1]
          have TWO : Two w w1 ⟨ok, oh, ofl, omo, on, oo, owh, op, op2, od⟩ := by rw [hw1]; exact Two.mk' w _
          obtain ⟨gA, hgA⟩ : ∃ g, g = w.heap.size := ⟨_, rfl⟩
          obtain ⟨gB, hgB⟩ : ∃ g, g = w.heap.size + 1 := ⟨_, rfl⟩
          have HGB : Hid (w.heap.size ≤ gB ∧ gB < w1.heap.size) := Hid.mk ⟨by omega, by rw [TWO.sz]; omega⟩
          have HAB : Hid (Arr w1 gB 34 zeroC) := Hid.mk (by rw [hgB]; exact TWO.b)
          have HAA : Hid (Arr w1 gA 37 (opC ⟨ok, oh, ofl, omo, on, oo, owh, op, op2, od⟩)) := Hid.mk (by rw [hgA]; exact TWO.a)
          have K1 := TWO.k
          have HK1 := Hid.mk K1
          have HNF : Hid (¬ fpM fp gm (.slice (some ⟨g, 0, none⟩) O.length c) gA ∧ ¬ fpM fp gm (.slice (some ⟨g, 0, none⟩) O.length c) gB ∧ gA ≠ gB ∧ gm ≠ gB ∧ gm ≠ gA) := Hid.mk ⟨fun a => by have := HH.out.flt a; omega, fun a => by have := HH.out.flt a; omega, by omega, fun e => by have := HH.out.flt (Or.inr (Or.inl rfl) : fpM fp gm (.slice (some ⟨g, 0, none⟩) O.length c) gm); omega, fun e => by have := HH.out.flt (Or.inr (Or.inl rfl) : fpM fp gm (.slice (some ⟨g, 0, none⟩) O.length c) gm); omega⟩
          rw [← hgB, ← hgA]
          clear hw1 TWO hgA hgB
          have a0 := HAA.out.cell 0
          have a1 := HAA.out.cell 1
          have a2 := HAA.out.cell 2
          have a3 := HAA.out.cell 3
          have a4 := HAA.out.cell 4
          have a5 := HAA.out.cell 5
          have a6 := HAA.out.cell 6
          have a7 := HAA.out.cell 7
          have a8 := HAA.out.cell 8
          have a9 := HAA.out.cell 9
          simp only [opC, List.getElem?_cons_zero, List.getElem?_cons_succ] at a0 a1 a2 a3 a4 a5 a6 a7 a8 a9
          obtain ⟨x0, x1⟩ := (HH.out.keep K1).cells
          obtain ⟨fz, r0, r1, r2, r3, r4, r5, r6⟩ := HROW.out _ K1
          go_wp2_with fail
          refine (HWT.out _ K1).mono ?_
          rintro e y1 ⟨rfl, hy1⟩
          subst hy1
          rw [hbt] at r3
          have HQ1 := Hid.mk (Keep.refl y1)
          rw [hbe] at r4
          rw [← HWT2.out] at r5
          have HQ3 := Hid.mk (Keep.refl y1)
          go_upto_region 9 with fail
          go_cut [7] from 65 to 80 (fun v7 wx => v7 = .int .i64 rr ∧ ∃ fp1, MW B fp1 wx gm gt ⟨s.u, s.hs, T'⟩ O (.slice (some ⟨g, 0, none⟩) O.length c) ∧ Stp (fpM fp gm (.slice (some ⟨g, 0, none⟩) O.length c)) (fpM fp1 gm (.slice (some ⟨g, 0, none⟩) O.length c)) y1 wx)
          case first =>
            have HSK : Hid (∀ W : World, Keep y1 W → W.cell? ⟨gm, 0, none⟩ = some (.pointer (some ⟨gt, 0, none⟩)) ∧ W.cell? ⟨gm, 1, none⟩ = some (.slice (some ⟨g, 0, none⟩) O.length c) ∧ W.cell? ⟨g, i * 7 + 1, none⟩ = some (.int .i64 ((hat s.hs O[i]).node : Nat)) ∧ W.cell? ⟨gA, 9, none⟩ = some (str od)) := Hid.mk (fun W kk => ⟨kk.cell x0, kk.cell x1, kk.cell r1, kk.cell a9⟩)
            have HMW := Hid.mk (HH.out.keep (HK1.out.trans HQ3.out))
            have HAAW := Hid.mk (HAA.out.keep HQ3.out)
            go_region_held3 (fun W : World => W.cell? ⟨gm, 0, none⟩ = some (.pointer (some ⟨gt, 0, none⟩)) ∧ W.cell? ⟨gm, 1, none⟩ = some (.slice (some ⟨g, 0, none⟩) O.length c) ∧ W.cell? ⟨g, i * 7 + 1, none⟩ = some (.int .i64 ((hat s.hs O[i]).node : Nat)) ∧ W.cell? ⟨gA, 9, none⟩ = some (str od))
              (with_reducible first | assumption | exact ⟨x0, x1, r1, a9⟩ | exact HSK.out _ (Keep.refl y1).drew | exact S2)
              ((go_at_call 85; refine (HWA.out _ ((HK1.out.trans HQ3.out).trans (Keep.refl y1).drew)).mono ?_; rintro x y ⟨fp1, rfl, t1, s1⟩
                obtain ⟨M1, s2⟩ := (HMW.out.keep (Keep.refl y1).drew).step t1 s1
                have AA1 := s2.1.arr HNF.out.1 (HAAW.out.keep (Keep.refl y1).drew)
                have S2 : (fun W : World => W.cell? ⟨gm, 0, none⟩ = some (.pointer (some ⟨gt, 0, none⟩)) ∧ W.cell? ⟨gm, 1, none⟩ = some (.slice (some ⟨g, 0, none⟩) O.length c) ∧ W.cell? ⟨g, i * 7 + 1, none⟩ = some (.int .i64 ((hat s.hs O[i]).node : Nat)) ∧ W.cell? ⟨gA, 9, none⟩ = some (str od)) y := ⟨M1.cells.1, M1.cells.2, (M1.rowAt hi).2.2.1, AA1.cell 9⟩
                have HM1 := Hid.mk M1
                have HS1 := Hid.mk ((Stp.keep (Keep.refl y1).drew).trans s2)
                clear M1 s1 s2 t1 AA1))
            go_wp2_with fail
            go_meet
            case rel => exact ⟨rfl, fp1, HM1.out, HS1.out⟩
          case rest =>
            obtain ⟨rfl, fp1, M1, s1⟩ := hcut
            obtain ⟨y5, hy5⟩ : ∃ y5, y5 = wc := ⟨_, rfl⟩
            subst hy5
            have HM1 := Hid.mk M1
            have HS1 := Hid.mk ((Stp.keep HQ3.out).trans s1)
            have AB1 := s1.1.arr HNF.out.2.1 (HAB.out.keep HQ3.out)
            have AA1 := s1.1.arr HNF.out.1 (HAA.out.keep HQ3.out)
            have HAB1 := Hid.mk AB1
            obtain ⟨u0, u1⟩ := M1.cells
            obtain ⟨fz5, -, -, -, -, -, v5, -⟩ := M1.rowAt hi
            have w9 := AA1.cell 9
            simp only [opC, List.getElem?_cons_zero, List.getElem?_cons_succ] at w9
            have f5 := fz5 (i * 7 + 5)
            clear s1 AA1 AB1
            by_cases hrr : rr = 0
            · subst hrr
              have hR := HR0.out
              rw [if_neg (by simp)] at hR
              have HV := Hid.mk hR
              obtain ⟨M2, s2⟩ := M1.setOff hi (F + od.length)
              have HM2 := Hid.mk M2
              have HS2 := Hid.mk (HS1.out.trans s2)
              have nB : ¬ fpM fp1 gm (.slice (some ⟨g, 0, none⟩) O.length c) gB := fun a => by
                rcases HS1.out.2 gB a with b | b
                · exact HNF.out.2.1 b
                · have := HGB.out.2; omega
              have AB2 := s2.1.arr nB HAB1.out
              have HAB2 := Hid.mk AB2
              have wA : (y5.setCell ⟨g, i * 7 + 5, none⟩ (.int .i64 ((F + od.length : Nat) : Int))).cell? ⟨gA, 9, none⟩ = some (str od) := (cell_other (fun e => HNF.out.1 (Or.inr (Or.inr (by rw [e]; rfl)))) _).trans w9
              have HWA2 := Hid.mk wA
              clear hR M2 s2 M1 wA AB2 HOFF HCUR HROW HTR fz5 nB
              go_upto_region 12 with fail
              go_region
              rw [show (F : Int) + (od.length : Int) = ((F + od.length : Nat) : Int) by omega]
              generalize y5.setCell ⟨g, i * 7 + 5, none⟩ (.int .i64 ((F + od.length : Nat) : Int)) = y6 at *
              obtain ⟨y7, hy7⟩ : ∃ y7, y7 = y6.drew := ⟨_, rfl⟩
              rw [← hy7]
              have k7 : Keep y6 y7 := by rw [hy7]; exact (Keep.refl y6).drew
              have HK7 := Hid.mk k7
              have w9' := k7.cell HWA2.out
              clear hy7 k7
              clear w9 x0 x1 a9 u0 u1 v5 f5
              obtain ⟨b0, b1, b2, b3, b4, b5, b6, b7, b8, z0, z1, z2, z3, z4, z5, z6, z7, z8⟩ := z9 (HAB2.out.keep HK7.out)
              have HE := Hid.mk (MP.fin (a := ⟨0, (od.length : Nat), [], sta0, []⟩) (v := (.slice none 0 0)) HH.out HK1.out (HM2.out.keep HK7.out) (HS2.out.trans (Stp.keep HK7.out)) HGB.out (OwnS.nil _ _ _ _ _) (fr9 (.int .i64 0) (.int .i64 (od.length : Nat)) (str []) (.int .i64 0) (.int .i64 0) (.int .i64 0) (.int .i64 0) (.int .i64 0) (.slice none 0 0)))
              have HAZ := Hid.mk (arr9 (HAB2.out.keep HK7.out) (.int .i64 0) (.int .i64 (od.length : Nat)) (str []) (.int .i64 0) (.int .i64 0) (.int .i64 0) (.int .i64 0) (.int .i64 0) (.slice none 0 0))
              go_wp2_with fail
              refine bodyPost_ret (v := .agg (ansC ⟨0, (od.length : Nat), [], sta0, []⟩ (.slice none 0 0)).toArray) (results_cell_row1 rfl _ _ gB 34 _ (0, 0) _ rfl HAZ.out Try.underlying34 rfl s34) rfl ?_
              rw [HV.out]
              exact HE.out
            · have hR := HR0.out
              rw [if_pos hrr] at hR
              have HV := Hid.mk hR
              have n1 : (rr != 0) = true := by simpa using hrr
              clear hR hrr M1
              go_wp2_with fail
              refine (refuse_c rr _).mono ?_
              rintro e y6 ⟨rfl, q2⟩
              obtain ⟨b0, b1, b2, b3, b4, b5, b6, b7, b8, z0, z1, z2, z3, z4, z5, z6, z7, z8⟩ := z9 (HAB1.out.keep q2)
              have HE := Hid.mk (MP.fin (a := ⟨rr, 0, [], sta0, []⟩) (v := (.slice none 0 0)) HH.out HK1.out (HM1.out.keep q2) (HS1.out.trans (Stp.keep q2)) HGB.out (OwnS.nil _ _ _ _ _) (fr9 (.int .i64 rr) (.int .i64 0) (str []) (.int .i64 0) (.int .i64 0) (.int .i64 0) (.int .i64 0) (.int .i64 0) (.slice none 0 0)))
              have HAZ := Hid.mk (arr9 (HAB1.out.keep q2) (.int .i64 rr) (.int .i64 0) (str []) (.int .i64 0) (.int .i64 0) (.int .i64 0) (.int .i64 0) (.int .i64 0) (.slice none 0 0))
              clear q2
              go_wp2_with fail
              refine bodyPost_ret (v := .agg (ansC ⟨rr, 0, [], sta0, []⟩ (.slice none 0 0)).toArray) (results_cell_row1 rfl _ _ gB 34 _ (0, 0) _ rfl HAZ.out Try.underlying34 rfl s34) rfl ?_
              rw [HV.out]
              exact HE.out
        | true =>
          rw [if_pos hbe] at hwat
          have HWT2 := Hid.mk hwat
          have HR0 := Hid.mk hR
          clear hod hdr hkd hwat
          clear hR h si fl hfl X
          go_enter Try.func53, Try.ntmps53
          go_upto_region 1 with fail
          obtain ⟨w1, hw1⟩ : ∃ w1, w1 = (w.alloc (.cells (opC ⟨ok, oh, ofl, omo, on, oo, owh, op, op2, od⟩).toArray 37)).alloc (.cells #[.int .i64 0, .int .i64 0, str [], .int .i64 0, .int .i64 0, .int .i64 0, .int .i64 0, .int .i64 0, .slice none 0 0] 34) := ⟨_, rfl⟩
          rw [← hw1]
          have TWO : Two w w1 ⟨ok, oh, ofl, omo, on, oo, owh, op, op2, od⟩ := by rw [hw1]; exact Two.mk' w _
          obtain ⟨gA, hgA⟩ : ∃ g, g = w.heap.size := ⟨_, rfl⟩
          obtain ⟨gB, hgB⟩ : ∃ g, g = w.heap.size + 1 := ⟨_, rfl⟩
          have HGB : Hid (w.heap.size ≤ gB ∧ gB < w1.heap.size) := Hid.mk ⟨by omega, by rw [TWO.sz]; omega⟩
          have HAB : Hid (Arr w1 gB 34 zeroC) := Hid.mk (by rw [hgB]; exact TWO.b)
          have HAA : Hid (Arr w1 gA 37 (opC ⟨ok, oh, ofl, omo, on, oo, owh, op, op2, od⟩)) := Hid.mk (by rw [hgA]; exact TWO.a)
          have K1 := TWO.k
          have HK1 := Hid.mk K1
          have HNF : Hid (¬ fpM fp gm (.slice (some ⟨g, 0, none⟩) O.length c) gA ∧ ¬ fpM fp gm (.slice (some ⟨g, 0, none⟩) O.length c) gB ∧ gA ≠ gB ∧ gm ≠ gB ∧ gm ≠ gA) := Hid.mk ⟨fun a => by have := HH.out.flt a; omega, fun a => by have := HH.out.flt a; omega, by omega, fun e => by have := HH.out.flt (Or.inr (Or.inl rfl) : fpM fp gm (.slice (some ⟨g, 0, none⟩) O.length c) gm); omega, fun e => by have := HH.out.flt (Or.inr (Or.inl rfl) : fpM fp gm (.slice (some ⟨g, 0, none⟩) O.length c) gm); omega⟩
          rw [← hgB, ← hgA]
          clear hw1 TWO hgA hgB
          have a0 := HAA.out.cell 0
          have a1 := HAA.out.cell 1
          have a2 := HAA.out.cell 2
          have a3 := HAA.out.cell 3
          have a4 := HAA.out.cell 4
          have a5 := HAA.out.cell 5
          have a6 := HAA.out.cell 6
          have a7 := HAA.out.cell 7
          have a8 := HAA.out.cell 8
          have a9 := HAA.out.cell 9
          simp only [opC, List.getElem?_cons_zero, List.getElem?_cons_succ] at a0 a1 a2 a3 a4 a5 a6 a7 a8 a9
          obtain ⟨x0, x1⟩ := (HH.out.keep K1).cells
          obtain ⟨fz, r0, r1, r2, r3, r4, r5, r6⟩ := HROW.out _ K1
          go_wp2_with fail
          refine (HWT.out _ K1).mono ?_
          rintro e y1 ⟨rfl, hy1⟩
          subst hy1
          rw [hbt] at r3
          have HQ1 := Hid.mk (Keep.refl y1)
          rw [hbe] at r4
          obtain ⟨bn, cap, c0, t1, t2, nodes⟩ := HTR.out _ K1
          obtain ⟨dv, ev, -, -, -, -, -, m5, -, bs, -⟩ := nodes (hat s.hs O[i]).node hnl
          obtain ⟨da, dc, hdv, hd1, hd2, -⟩ := bs.form
          subst hdv
          unfold maxLen at t2 hd2
          have i3 : ((hat s.hs O[i]).node : Int) < s.T.length := by omega
          have i4 : (0 : Int) ≤ (hat s.hs O[i]).node := by omega
          clear nodes bs
          go_upto_region 8 with fail
          go_cut [6] from 46 to 64 (fun v6 wx => v6 = .int .i64 (F : Nat) ∧ Keep y1 wx)
          case first =>
            go_quiet (fail)
            go_wp2_with fail
            go_meet
            case rel => exact ⟨by rw [HWT2.out], (Keep.refl _).drewN _⟩
          case rest =>
            obtain ⟨rfl, q3⟩ := hcut
            obtain ⟨y3, hy3⟩ : ∃ y3, y3 = wc := ⟨_, rfl⟩
            subst hy3
            have HQ3 := Hid.mk q3
            replace x0 := q3.cell x0
            replace x1 := q3.cell x1
            replace r1 := q3.cell r1
            replace a9 := q3.cell a9
            clear q3
            go_upto_region 9 with fail
            go_cut [7] from 65 to 80 (fun v7 wx => v7 = .int .i64 rr ∧ ∃ fp1, MW B fp1 wx gm gt ⟨s.u, s.hs, T'⟩ O (.slice (some ⟨g, 0, none⟩) O.length c) ∧ Stp (fpM fp gm (.slice (some ⟨g, 0, none⟩) O.length c)) (fpM fp1 gm (.slice (some ⟨g, 0, none⟩) O.length c)) y3 wx)
            case first =>
              have HSK : Hid (∀ W : World, Keep y3 W → W.cell? ⟨gm, 0, none⟩ = some (.pointer (some ⟨gt, 0, none⟩)) ∧ W.cell? ⟨gm, 1, none⟩ = some (.slice (some ⟨g, 0, none⟩) O.length c) ∧ W.cell? ⟨g, i * 7 + 1, none⟩ = some (.int .i64 ((hat s.hs O[i]).node : Nat)) ∧ W.cell? ⟨gA, 9, none⟩ = some (str od)) := Hid.mk (fun W kk => ⟨kk.cell x0, kk.cell x1, kk.cell r1, kk.cell a9⟩)
              have HMW := Hid.mk (HH.out.keep (HK1.out.trans HQ3.out))
              have HAAW := Hid.mk (HAA.out.keep HQ3.out)
              go_region_held3 (fun W : World => W.cell? ⟨gm, 0, none⟩ = some (.pointer (some ⟨gt, 0, none⟩)) ∧ W.cell? ⟨gm, 1, none⟩ = some (.slice (some ⟨g, 0, none⟩) O.length c) ∧ W.cell? ⟨g, i * 7 + 1, none⟩ = some (.int .i64 ((hat s.hs O[i]).node : Nat)) ∧ W.cell? ⟨gA, 9, none⟩ = some (str od))
                (with_reducible first | assumption | exact ⟨x0, x1, r1, a9⟩ | exact HSK.out _ (Keep.refl y3).drew | exact S2)
                ((go_at_call 85; refine (HWA.out _ ((HK1.out.trans HQ3.out).trans (Keep.refl y3).drew)).mono ?_; rintro x y ⟨fp1, rfl, t1, s1⟩
                  obtain ⟨M1, s2⟩ := (HMW.out.keep (Keep.refl y3).drew).step t1 s1
                  have AA1 := s2.1.arr HNF.out.1 (HAAW.out.keep (Keep.refl y3).drew)
                  have S2 : (fun W : World => W.cell? ⟨gm, 0, none⟩ = some (.pointer (some ⟨gt, 0, none⟩)) ∧ W.cell? ⟨gm, 1, none⟩ = some (.slice (some ⟨g, 0, none⟩) O.length c) ∧ W.cell? ⟨g, i * 7 + 1, none⟩ = some (.int .i64 ((hat s.hs O[i]).node : Nat)) ∧ W.cell? ⟨gA, 9, none⟩ = some (str od)) y := ⟨M1.cells.1, M1.cells.2, (M1.rowAt hi).2.2.1, AA1.cell 9⟩
                  have HM1 := Hid.mk M1
                  have HS1 := Hid.mk ((Stp.keep (Keep.refl y3).drew).trans s2)
                  clear M1 s1 s2 t1 AA1))
              go_wp2_with fail
              go_meet
              case rel => exact ⟨rfl, fp1, HM1.out, HS1.out⟩
            case rest =>
              obtain ⟨rfl, fp1, M1, s1⟩ := hcut
              obtain ⟨y5, hy5⟩ : ∃ y5, y5 = wc := ⟨_, rfl⟩
              subst hy5
              have HM1 := Hid.mk M1
              have HS1 := Hid.mk ((Stp.keep HQ3.out).trans s1)
              have AB1 := s1.1.arr HNF.out.2.1 (HAB.out.keep HQ3.out)
              have AA1 := s1.1.arr HNF.out.1 (HAA.out.keep HQ3.out)
              have HAB1 := Hid.mk AB1
              obtain ⟨u0, u1⟩ := M1.cells
              obtain ⟨fz5, -, -, -, -, -, v5, -⟩ := M1.rowAt hi
              have w9 := AA1.cell 9
              simp only [opC, List.getElem?_cons_zero, List.getElem?_cons_succ] at w9
              have f5 := fz5 (i * 7 + 5)
              clear s1 AA1 AB1
              by_cases hrr : rr = 0
              · subst hrr
                have hR := HR0.out
                rw [if_neg (by simp)] at hR
                have HV := Hid.mk hR
                obtain ⟨M2, s2⟩ := M1.setOff hi (F + od.length)
                have HM2 := Hid.mk M2
                have HS2 := Hid.mk (HS1.out.trans s2)
                have nB : ¬ fpM fp1 gm (.slice (some ⟨g, 0, none⟩) O.length c) gB := fun a => by
                  rcases HS1.out.2 gB a with b | b
                  · exact HNF.out.2.1 b
                  · have := HGB.out.2; omega
                have AB2 := s2.1.arr nB HAB1.out
                have HAB2 := Hid.mk AB2
                have wA : (y5.setCell ⟨g, i * 7 + 5, none⟩ (.int .i64 ((F + od.length : Nat) : Int))).cell? ⟨gA, 9, none⟩ = some (str od) := (cell_other (fun e => HNF.out.1 (Or.inr (Or.inr (by rw [e]; rfl)))) _).trans w9
                have HWA2 := Hid.mk wA
                clear hR M2 s2 M1 wA AB2 HOFF HCUR HROW HTR fz5 nB
                go_upto_region 12 with fail
                go_region
                rw [show (F : Int) + (od.length : Int) = ((F + od.length : Nat) : Int) by omega]
                generalize y5.setCell ⟨g, i * 7 + 5, none⟩ (.int .i64 ((F + od.length : Nat) : Int)) = y6 at *
                obtain ⟨y7, hy7⟩ : ∃ y7, y7 = y6.drew := ⟨_, rfl⟩
                rw [← hy7]
                have k7 : Keep y6 y7 := by rw [hy7]; exact (Keep.refl y6).drew
                have HK7 := Hid.mk k7
                have w9' := k7.cell HWA2.out
                clear hy7 k7
                clear w9 x0 x1 a9 u0 u1 v5 f5
                obtain ⟨b0, b1, b2, b3, b4, b5, b6, b7, b8, z0, z1, z2, z3, z4, z5, z6, z7, z8⟩ := z9 (HAB2.out.keep HK7.out)
                have HE := Hid.mk (MP.fin (a := ⟨0, (od.length : Nat), [], sta0, []⟩) (v := (.slice none 0 0)) HH.out HK1.out (HM2.out.keep HK7.out) (HS2.out.trans (Stp.keep HK7.out)) HGB.out (OwnS.nil _ _ _ _ _) (fr9 (.int .i64 0) (.int .i64 (od.length : Nat)) (str []) (.int .i64 0) (.int .i64 0) (.int .i64 0) (.int .i64 0) (.int .i64 0) (.slice none 0 0)))
                have HAZ := Hid.mk (arr9 (HAB2.out.keep HK7.out) (.int .i64 0) (.int .i64 (od.length : Nat)) (str []) (.int .i64 0) (.int .i64 0) (.int .i64 0) (.int .i64 0) (.int .i64 0) (.slice none 0 0))
                go_wp2_with fail
                refine bodyPost_ret (v := .agg (ansC ⟨0, (od.length : Nat), [], sta0, []⟩ (.slice none 0 0)).toArray) (results_cell_row1 rfl _ _ gB 34 _ (0, 0) _ rfl HAZ.out Try.underlying34 rfl s34) rfl ?_
                rw [HV.out]
                exact HE.out
              · have hR := HR0.out
                rw [if_pos hrr] at hR
                have HV := Hid.mk hR
                have n1 : (rr != 0) = true := by simpa using hrr
                clear hR hrr M1
                go_wp2_with fail
                refine (refuse_c rr _).mono ?_
                rintro e y6 ⟨rfl, q2⟩
                obtain ⟨b0, b1, b2, b3, b4, b5, b6, b7, b8, z0, z1, z2, z3, z4, z5, z6, z7, z8⟩ := z9 (HAB1.out.keep q2)
                have HE := Hid.mk (MP.fin (a := ⟨rr, 0, [], sta0, []⟩) (v := (.slice none 0 0)) HH.out HK1.out (HM1.out.keep q2) (HS1.out.trans (Stp.keep q2)) HGB.out (OwnS.nil _ _ _ _ _) (fr9 (.int .i64 rr) (.int .i64 0) (str []) (.int .i64 0) (.int .i64 0) (.int .i64 0) (.int .i64 0) (.int .i64 0) (.slice none 0 0)))
                have HAZ := Hid.mk (arr9 (HAB1.out.keep q2) (.int .i64 rr) (.int .i64 0) (str []) (.int .i64 0) (.int .i64 0) (.int .i64 0) (.int .i64 0) (.int .i64 0) (.slice none 0 0))
                clear q2
                go_wp2_with fail
                refine bodyPost_ret (v := .agg (ansC ⟨rr, 0, [], sta0, []⟩ (.slice none 0 0)).toArray) (results_cell_row1 rfl _ _ gB 34 _ (0, 0) _ rfl HAZ.out Try.underlying34 rfl s34) rfl ?_
                rw [HV.out]
                exact HE.out
end Go.Proofs.Qxb6500767a
