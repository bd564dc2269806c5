/- unionvfsm: Play, the arms of a handle and of a path. -/
import Derived.Test.Qxb6500767aNe
namespace Go.Proofs.Qxb6500767a
open Go.RowKit Go.Qm
set_option linter.unusedVariables false
set_option linter.unusedSimpArgs false
attribute [local go_sem ↓] Go.wp_at_zero Go.wp_at_succ
set_option maxRecDepth 8000 in
set_option maxHeartbeats 8000000 in
theorem mp7 {B gm gt k : Nat} {fp : Nat → Prop} {w : World} {s : Stt} {O : List Nat} {ov : Value} (o : OpV) (hK : o.kind = 7) (h : MW B fp w gm gt s O ov) (si : SI k s.u s.hs s.T) (hk : k ≤ 70000) (hp : o.path.length ≤ 100000) (hp2 : o.path2.length ≤ 100000) (hdt : o.data.length ≤ 100000) (fl : FL s.hs) :
    Calls Try.prog 15 #[.pointer (some ⟨gm, 0, none⟩), .agg (opC o).toArray] w fun e w' => MP B fp w gm gt ov ⟨(ftrT s.u s.hs s.T o.h o.off).2, 0, [], sta0, []⟩ ⟨s.u, s.hs, (ftrT s.u s.hs s.T o.h o.off).1⟩ e w' := by
  have HH := Hid.mk h
  obtain ⟨ok, oh, ofl, omo, on, oo, owh, op, op2, od⟩ := o
  simp only at hK hp hp2 hdt ⊢
  subst hK
  obtain ⟨R, hR⟩ : ∃ R, R = ftrT s.u s.hs s.T oh oo := ⟨_, rfl⟩
  rw [← hR]
  unfold ftrT at hR
  cases ho : opn s.u oh with
  | false =>
    have hg : getOK s.u s.hs oh 2 = false := by rw [get2 fl, ho]; rfl
    rw [if_pos hg] at hR
    have HV := Hid.mk hR
    have WF := Hid.mk (fun W (kk : Keep w W) => where_f (h.keep kk) ho)
    clear hR hg ho h
    go_enter Try.func15, Try.ntmps15
    go_upto_region 1 with fail
    obtain ⟨w1, hw1⟩ : ∃ w1, w1 = (w.alloc (.cells (opC ⟨7, oh, ofl, omo, on, oo, owh, op, op2, od⟩).toArray 37)).alloc (.cells #[.int .i64 0, .int .i64 0, str [], .int .i64 0, .int .i64 0, .int .i64 0, .int .i64 0, .int .i64 0, .slice none 0 0] 34) := ⟨_, rfl⟩
    rw [← hw1]
    have TWO : Two w w1 ⟨7, oh, ofl, omo, on, oo, owh, op, op2, od⟩ := by rw [hw1]; exact Two.mk' w _
    obtain ⟨gA, hgA⟩ : ∃ g, g = w.heap.size := ⟨_, rfl⟩
    obtain ⟨gB, hgB⟩ : ∃ g, g = w.heap.size + 1 := ⟨_, rfl⟩
    have HGB : Hid (w.heap.size ≤ gB ∧ gB < w1.heap.size) := Hid.mk ⟨by omega, by rw [TWO.sz]; omega⟩
    have HAB : Hid (Arr w1 gB 34 zeroC) := Hid.mk (by rw [hgB]; exact TWO.b)
    have HAA : Hid (Arr w1 gA 37 (opC ⟨7, oh, ofl, omo, on, oo, owh, op, op2, od⟩)) := Hid.mk (by rw [hgA]; exact TWO.a)
    have K1 := TWO.k
    have HK1 := Hid.mk K1
    have HNF : Hid (¬ fpM fp gm ov gA ∧ ¬ fpM fp gm ov gB ∧ gA ≠ gB ∧ gm ≠ gB ∧ gm ≠ gA) := Hid.mk ⟨fun a => by have := HH.out.flt a; omega, fun a => by have := HH.out.flt a; omega, by omega, fun e => by have := HH.out.flt (Or.inr (Or.inl rfl) : fpM fp gm ov gm); omega, fun e => by have := HH.out.flt (Or.inr (Or.inl rfl) : fpM fp gm ov gm); omega⟩
    rw [← hgB, ← hgA]
    clear hw1 TWO hgA hgB
    have a0 := HAA.out.cell 0
    have a1 := HAA.out.cell 1
    have a2 := HAA.out.cell 2
    have a3 := HAA.out.cell 3
    have a4 := HAA.out.cell 4
    have a5 := HAA.out.cell 5
    have a6 := HAA.out.cell 6
    have a7 := HAA.out.cell 7
    have a8 := HAA.out.cell 8
    have a9 := HAA.out.cell 9
    simp only [opC, List.getElem?_cons_zero, List.getElem?_cons_succ] at a0 a1 a2 a3 a4 a5 a6 a7 a8 a9
    obtain ⟨x0, x1⟩ := (HH.out.keep K1).cells
    go_wp2_with fail
    refine (WF.out _ K1).mono ?_
    rintro e y1 ⟨rfl, hy1⟩
    subst hy1
    have HQ1 := Hid.mk (Keep.refl y1)
    go_wp2_with fail
    refine (refuse_c 1 _).mono ?_
    rintro e y2 ⟨rfl, q2⟩
    obtain ⟨b0, b1, b2, b3, b4, b5, b6, b7, b8, z0, z1, z2, z3, z4, z5, z6, z7, z8⟩ := z9 (HAB.out.keep (HQ1.out.trans q2))
    have HE := Hid.mk (MP.fin (a := ⟨1, 0, [], sta0, []⟩) (v := (.slice none 0 0)) HH.out HK1.out (HH.out.keep (HK1.out.trans (HQ1.out.trans q2))) (Stp.keep (HQ1.out.trans q2)) HGB.out (OwnS.nil _ _ _ _ _) (fr9 (.int .i64 1) (.int .i64 0) (str []) (.int .i64 0) (.int .i64 0) (.int .i64 0) (.int .i64 0) (.int .i64 0) (.slice none 0 0)))
    have HAZ := Hid.mk (arr9 (HAB.out.keep (HQ1.out.trans q2)) (.int .i64 1) (.int .i64 0) (str []) (.int .i64 0) (.int .i64 0) (.int .i64 0) (.int .i64 0) (.int .i64 0) (.slice none 0 0))
    clear q2
    go_wp2_with fail
    refine bodyPost_ret (v := .agg (ansC ⟨1, 0, [], sta0, []⟩ (.slice none 0 0)).toArray) (results_cell_row1 rfl _ _ gB 34 _ (0, 0) _ rfl HAZ.out Try.underlying34 rfl s34) rfl ?_
    rw [HV.out]
    exact HE.out
  | true =>
    have hg : getOK s.u s.hs oh 2 = bt (hat s.hs oh.toNat).flags 2 := by rw [get2 fl, ho]; rfl
    rw [hg] at hR
    clear hg
    obtain ⟨i, hi, hox, hox2⟩ := h.rel.idx ho
    have X := HX.of h.rel si hi
    have hfl := fl O[i]
    rw [hox2] at hR
    obtain ⟨g, c, hov, l1, l2, -⟩ := h.row hi
    subst hov
    have HWT : Hid (∀ W, Keep w W → Calls Try.prog 55 #[.pointer (some ⟨gm, 0, none⟩), .int .i64 oh] W fun e w' => e = .returned (.int .i64 i) ∧ w' = W) := Hid.mk (fun W (kk : Keep w W) => by rw [hox]; exact where_t (h.keep kk) hi)
    clear hox2 ho hox
    have HROW := Hid.mk (fun W (kk : Keep w W) => (h.keep kk).rowAt hi)
    have HTR := Hid.mk (fun W (kk : Keep w W) => (h.keep kk).tree.tr)
    have HKC := Hid.mk (fun W (kk : Keep w W) => kindOf_c (h.keep kk) X.nl)
    have HOFF := Hid.mk (fun W (M : MW B fp W gm gt s O (.slice (some ⟨g, 0, none⟩) O.length c)) z => M.setOff hi z)
    have HCUR := Hid.mk (fun W (M : MW B fp W gm gt s O (.slice (some ⟨g, 0, none⟩) O.length c)) z => M.setCur hi z)
    have i1 : (i : Int) < O.length := by omega
    have i2 : (0 : Int) ≤ i := by omega
    unfold maxLen at l2
    have hD := si.t.data (hat s.hs O[i]).node
    have hnl := X.nl
    cases hbt : bt (hat s.hs O[i]).flags 2 with
    | false =>
      rw [if_pos hbt] at hR
      have HV := Hid.mk hR
      clear hR h si fl hfl X
      go_enter Try.func15, Try.ntmps15
      go_upto_region 1 with fail
      obtain ⟨w1, hw1⟩ : ∃ w1, w1 = (w.alloc (.cells (opC ⟨7, oh, ofl, omo, on, oo, owh, op, op2, od⟩).toArray 37)).alloc (.cells #[.int .i64 0, .int .i64 0, str [], .int .i64 0, .int .i64 0, .int .i64 0, .int .i64 0, .int .i64 0, .slice none 0 0] 34) := ⟨_, rfl⟩
      rw [← hw1]
      have TWO : Two w w1 ⟨7, oh, ofl, omo, on, oo, owh, op, op2, od⟩ := by rw [hw1]; exact Two.mk' w _
      obtain ⟨gA, hgA⟩ : ∃ g, g = w.heap.size := ⟨_, rfl⟩
      obtain ⟨gB, hgB⟩ : ∃ g, g = w.heap.size + 1 := ⟨_, rfl⟩
      have HGB : Hid (w.heap.size ≤ gB ∧ gB < w1.heap.size) := Hid.mk ⟨by omega, by rw [TWO.sz]; omega⟩
      have HAB : Hid (Arr w1 gB 34 zeroC) := Hid.mk (by rw [hgB]; exact TWO.b)
      have HAA : Hid (Arr w1 gA 37 (opC ⟨7, oh, ofl, omo, on, oo, owh, op, op2, od⟩)) := Hid.mk (by rw [hgA]; exact TWO.a)
      have K1 := TWO.k
      have HK1 := Hid.mk K1
      have HNF : Hid (¬ fpM fp gm (.slice (some ⟨g, 0, none⟩) O.length c) gA ∧ ¬ fpM fp gm (.slice (some ⟨g, 0, none⟩) O.length c) gB ∧ gA ≠ gB ∧ gm ≠ gB ∧ gm ≠ gA) := Hid.mk ⟨fun a => by have := HH.out.flt a; omega, fun a => by have := HH.out.flt a; omega, by omega, fun e => by have := HH.out.flt (Or.inr (Or.inl rfl) : fpM fp gm (.slice (some ⟨g, 0, none⟩) O.length c) gm); omega, fun e => by have := HH.out.flt (Or.inr (Or.inl rfl) : fpM fp gm (.slice (some ⟨g, 0, none⟩) O.length c) gm); omega⟩
      rw [← hgB, ← hgA]
      clear hw1 TWO hgA hgB
      have a0 := HAA.out.cell 0
      have a1 := HAA.out.cell 1
      have a2 := HAA.out.cell 2
      have a3 := HAA.out.cell 3
      have a4 := HAA.out.cell 4
      have a5 := HAA.out.cell 5
      have a6 := HAA.out.cell 6
      have a7 := HAA.out.cell 7
      have a8 := HAA.out.cell 8
      have a9 := HAA.out.cell 9
      simp only [opC, List.getElem?_cons_zero, List.getElem?_cons_succ] at a0 a1 a2 a3 a4 a5 a6 a7 a8 a9
      obtain ⟨x0, x1⟩ := (HH.out.keep K1).cells
      obtain ⟨fz, r0, r1, r2, r3, r4, r5, r6⟩ := HROW.out _ K1
      go_wp2_with fail
      refine (HWT.out _ K1).mono ?_
      rintro e y1 ⟨rfl, hy1⟩
      subst hy1
      rw [hbt] at r3
      go_wp2_with fail
      refine (refuse_c 1 _).mono ?_
      rintro e y2 ⟨rfl, q2⟩
      obtain ⟨b0, b1, b2, b3, b4, b5, b6, b7, b8, z0, z1, z2, z3, z4, z5, z6, z7, z8⟩ := z9 (HAB.out.keep ((Keep.refl y1).trans q2))
      have HE := Hid.mk (MP.fin (a := ⟨1, 0, [], sta0, []⟩) (v := (.slice none 0 0)) HH.out HK1.out (HH.out.keep (HK1.out.trans ((Keep.refl y1).trans q2))) (Stp.keep ((Keep.refl y1).trans q2)) HGB.out (OwnS.nil _ _ _ _ _) (fr9 (.int .i64 1) (.int .i64 0) (str []) (.int .i64 0) (.int .i64 0) (.int .i64 0) (.int .i64 0) (.int .i64 0) (.slice none 0 0)))
      have HAZ := Hid.mk (arr9 (HAB.out.keep ((Keep.refl y1).trans q2)) (.int .i64 1) (.int .i64 0) (str []) (.int .i64 0) (.int .i64 0) (.int .i64 0) (.int .i64 0) (.int .i64 0) (.slice none 0 0))
      clear q2
      go_wp2_with fail
      refine bodyPost_ret (v := .agg (ansC ⟨1, 0, [], sta0, []⟩ (.slice none 0 0)).toArray) (results_cell_row1 rfl _ _ gB 34 _ (0, 0) _ rfl HAZ.out Try.underlying34 rfl s34) rfl ?_
      rw [HV.out]
      exact HE.out
    | true =>
      rw [if_neg (by rw [hbt]; decide)] at hR
      have hdr := hfl.2.2 hbt
      rw [if_neg (by rw [hdr]; decide)] at hR
      have HRC := Hid.mk (fun W (kk : Keep w W) (z : Nat) (hz : z ≤ 2 ^ 22) => resize_c B gt (hat s.hs O[i]).node z fp s.T W (h.keep kk).tree hnl (by have := si.t.len; omega) (by have := si.t.ub; omega) hz (by omega))
      have HVS := Hid.mk (fun W => sizeOK_c oo W)
      cases hv : vsB oo with
      | false =>
        rw [if_pos hv] at hR
        have HV := Hid.mk hR
        rw [hv] at HVS
        clear hv
        clear hR h si fl hfl X
        go_enter Try.func15, Try.ntmps15
        go_upto_region 1 with fail
        obtain ⟨w1, hw1⟩ : ∃ w1, w1 = (w.alloc (.cells (opC ⟨7, oh, ofl, omo, on, oo, owh, op, op2, od⟩).toArray 37)).alloc (.cells #[.int .i64 0, .int .i64 0, str [], .int .i64 0, .int .i64 0, .int .i64 0, .int .i64 0, .int .i64 0, .slice none 0 0] 34) := ⟨_, rfl⟩
        rw [← hw1]
        have TWO : Two w w1 ⟨7, oh, ofl, omo, on, oo, owh, op, op2, od⟩ := by rw [hw1]; exact Two.mk' w _
        obtain ⟨gA, hgA⟩ : ∃ g, g = w.heap.size := ⟨_, rfl⟩
        obtain ⟨gB, hgB⟩ : ∃ g, g = w.heap.size + 1 := ⟨_, rfl⟩
        have HGB : Hid (w.heap.size ≤ gB ∧ gB < w1.heap.size) := Hid.mk ⟨by omega, by rw [TWO.sz]; omega⟩
        have HAB : Hid (Arr w1 gB 34 zeroC) := Hid.mk (by rw [hgB]; exact TWO.b)
        have HAA : Hid (Arr w1 gA 37 (opC ⟨7, oh, ofl, omo, on, oo, owh, op, op2, od⟩)) := Hid.mk (by rw [hgA]; exact TWO.a)
        have K1 := TWO.k
        have HK1 := Hid.mk K1
        have HNF : Hid (¬ fpM fp gm (.slice (some ⟨g, 0, none⟩) O.length c) gA ∧ ¬ fpM fp gm (.slice (some ⟨g, 0, none⟩) O.length c) gB ∧ gA ≠ gB ∧ gm ≠ gB ∧ gm ≠ gA) := Hid.mk ⟨fun a => by have := HH.out.flt a; omega, fun a => by have := HH.out.flt a; omega, by omega, fun e => by have := HH.out.flt (Or.inr (Or.inl rfl) : fpM fp gm (.slice (some ⟨g, 0, none⟩) O.length c) gm); omega, fun e => by have := HH.out.flt (Or.inr (Or.inl rfl) : fpM fp gm (.slice (some ⟨g, 0, none⟩) O.length c) gm); omega⟩
        rw [← hgB, ← hgA]
        clear hw1 TWO hgA hgB
        have a0 := HAA.out.cell 0
        have a1 := HAA.out.cell 1
        have a2 := HAA.out.cell 2
        have a3 := HAA.out.cell 3
        have a4 := HAA.out.cell 4
        have a5 := HAA.out.cell 5
        have a6 := HAA.out.cell 6
        have a7 := HAA.out.cell 7
        have a8 := HAA.out.cell 8
        have a9 := HAA.out.cell 9
        simp only [opC, List.getElem?_cons_zero, List.getElem?_cons_succ] at a0 a1 a2 a3 a4 a5 a6 a7 a8 a9
        obtain ⟨x0, x1⟩ := (HH.out.keep K1).cells
        obtain ⟨fz, r0, r1, r2, r3, r4, r5, r6⟩ := HROW.out _ K1
        go_wp2_with fail
        refine (HWT.out _ K1).mono ?_
        rintro e y1 ⟨rfl, hy1⟩
        subst hy1
        rw [hbt] at r3
        go_wp2_with fail
        refine (HVS.out _).mono ?_
        rintro e y2 ⟨rfl, hy2⟩
        subst hy2
        go_wp2_with fail
        refine (refuse_c 2 _).mono ?_
        rintro e y3 ⟨rfl, q2⟩
        obtain ⟨b0, b1, b2, b3, b4, b5, b6, b7, b8, z0, z1, z2, z3, z4, z5, z6, z7, z8⟩ := z9 (HAB.out.keep ((Keep.refl y2).trans q2))
        have HE := Hid.mk (MP.fin (a := ⟨2, 0, [], sta0, []⟩) (v := (.slice none 0 0)) HH.out HK1.out (HH.out.keep (HK1.out.trans ((Keep.refl y2).trans q2))) (Stp.keep ((Keep.refl y2).trans q2)) HGB.out (OwnS.nil _ _ _ _ _) (fr9 (.int .i64 2) (.int .i64 0) (str []) (.int .i64 0) (.int .i64 0) (.int .i64 0) (.int .i64 0) (.int .i64 0) (.slice none 0 0)))
        have HAZ := Hid.mk (arr9 (HAB.out.keep ((Keep.refl y2).trans q2)) (.int .i64 2) (.int .i64 0) (str []) (.int .i64 0) (.int .i64 0) (.int .i64 0) (.int .i64 0) (.int .i64 0) (.slice none 0 0))
        clear q2
        go_wp2_with fail
        refine bodyPost_ret (v := .agg (ansC ⟨2, 0, [], sta0, []⟩ (.slice none 0 0)).toArray) (results_cell_row1 rfl _ _ gB 34 _ (0, 0) _ rfl HAZ.out Try.underlying34 rfl s34) rfl ?_
        rw [HV.out]
        exact HE.out
      | true =>
        rw [if_neg (by rw [hv]; decide)] at hR
        have hz : 0 ≤ oo ∧ oo ≤ 1048576 := by unfold vsB at hv; simpa using hv
        rw [hv] at HVS
        obtain ⟨z, rfl⟩ : ∃ z : Nat, oo = z := ⟨oo.toNat, by omega⟩
        rw [Int.toNat_natCast] at hR
        have HC2 := Hid.mk (fun W (kk : Keep w W) => HRC.out W kk z (by omega))
        generalize resT s.T (hat s.hs O[i]).node z = RS at *
        obtain ⟨T', rr⟩ := RS
        simp only at HC2
        have HV := Hid.mk hR
        clear hv HRC hdr
        clear hR h si fl hfl X
        go_enter Try.func15, Try.ntmps15
        go_upto_region 1 with fail
        obtain ⟨w1, hw1⟩ : ∃ w1, w1 = (w.alloc (.cells (opC ⟨7, oh, ofl, omo, on, (z : Nat), owh, op, op2, od⟩).toArray 37)).alloc (.cells #[.int .i64 0, .int .i64 0, str [], .int .i64 0, .int .i64 0, .int .i64 0, .int .i64 0, .int .i64 0, .slice none 0 0] 34) := ⟨_, rfl⟩
        rw [← hw1]
        have TWO : Two w w1 ⟨7, oh, ofl, omo, on, (z : Nat), owh, op, op2, od⟩ := by rw [hw1]; exact Two.mk' w _
        obtain ⟨gA, hgA⟩ : ∃ g, g = w.heap.size := ⟨_, rfl⟩
        obtain ⟨gB, hgB⟩ : ∃ g, g = w.heap.size + 1 := ⟨_, rfl⟩
        have HGB : Hid (w.heap.size ≤ gB ∧ gB < w1.heap.size) := Hid.mk ⟨by omega, by rw [TWO.sz]; omega⟩
        have HAB : Hid (Arr w1 gB 34 zeroC) := Hid.mk (by rw [hgB]; exact TWO.b)
        have HAA : Hid (Arr w1 gA 37 (opC ⟨7, oh, ofl, omo, on, (z : Nat), owh, op, op2, od⟩)) := Hid.mk (by rw [hgA]; exact TWO.a)
        have K1 := TWO.k
        have HK1 := Hid.mk K1
        have HNF : Hid (¬ fpM fp gm (.slice (some ⟨g, 0, none⟩) O.length c) gA ∧ ¬ fpM fp gm (.slice (some ⟨g, 0, none⟩) O.length c) gB ∧ gA ≠ gB ∧ gm ≠ gB ∧ gm ≠ gA) := Hid.mk ⟨fun a => by have := HH.out.flt a; omega, fun a => by have := HH.out.flt a; omega, by omega, fun e => by have := HH.out.flt (Or.inr (Or.inl rfl) : fpM fp gm (.slice (some ⟨g, 0, none⟩) O.length c) gm); omega, fun e => by have := HH.out.flt (Or.inr (Or.inl rfl) : fpM fp gm (.slice (some ⟨g, 0, none⟩) O.length c) gm); omega⟩
        rw [← hgB, ← hgA]
        clear hw1 TWO hgA hgB
        have a0 := HAA.out.cell 0
        have a1 := HAA.out.cell 1
        have a2 := HAA.out.cell 2
        have a3 := HAA.out.cell 3
        have a4 := HAA.out.cell 4
        have a5 := HAA.out.cell 5
        have a6 := HAA.out.cell 6
        have a7 := HAA.out.cell 7
        have a8 := HAA.out.cell 8
        have a9 := HAA.out.cell 9
        simp only [opC, List.getElem?_cons_zero, List.getElem?_cons_succ] at a0 a1 a2 a3 a4 a5 a6 a7 a8 a9
        obtain ⟨x0, x1⟩ := (HH.out.keep K1).cells
        obtain ⟨fz, r0, r1, r2, r3, r4, r5, r6⟩ := HROW.out _ K1
        go_wp2_with fail
        refine (HWT.out _ K1).mono ?_
        rintro e y1 ⟨rfl, hy1⟩
        subst hy1
        rw [hbt] at r3
        go_wp2_with fail
        refine (HVS.out _).mono ?_
        rintro e y2 ⟨rfl, hy2⟩
        subst hy2
        go_upto_region 20 with fail
        have HS : Hid (∀ (W : World) (jj : Nat) (v : Value), (W.cell? ⟨gm, 0, none⟩ = some (.pointer (some ⟨gt, 0, none⟩)) ∧ W.cell? ⟨gm, 1, none⟩ = some (.slice (some ⟨g, 0, none⟩) O.length c) ∧ W.cell? ⟨g, i * 7 + 1, none⟩ = some (.int .i64 ((hat s.hs O[i]).node : Nat)) ∧ W.cell? ⟨gA, 5, none⟩ = some (.int .i64 (z : Nat))) → ((fun W : World => W.cell? ⟨gm, 0, none⟩ = some (.pointer (some ⟨gt, 0, none⟩)) ∧ W.cell? ⟨gm, 1, none⟩ = some (.slice (some ⟨g, 0, none⟩) O.length c) ∧ W.cell? ⟨g, i * 7 + 1, none⟩ = some (.int .i64 ((hat s.hs O[i]).node : Nat)) ∧ W.cell? ⟨gA, 5, none⟩ = some (.int .i64 (z : Nat))) (W.setCell ⟨gB, jj, none⟩ v))) := Hid.mk (fun W jj v hc => ⟨(cell_other HNF.out.2.2.2.1 v).trans hc.1, (cell_other HNF.out.2.2.2.1 v).trans hc.2.1, (cell_other (fun e => HNF.out.2.1 (Or.inr (Or.inr (by rw [← e]; rfl)))) v).trans hc.2.2.1, (cell_other HNF.out.2.2.1 v).trans hc.2.2.2⟩)
        have HSK : Hid (∀ W : World, Keep y2 W → (W.cell? ⟨gm, 0, none⟩ = some (.pointer (some ⟨gt, 0, none⟩)) ∧ W.cell? ⟨gm, 1, none⟩ = some (.slice (some ⟨g, 0, none⟩) O.length c) ∧ W.cell? ⟨g, i * 7 + 1, none⟩ = some (.int .i64 ((hat s.hs O[i]).node : Nat)) ∧ W.cell? ⟨gA, 5, none⟩ = some (.int .i64 (z : Nat)))) := Hid.mk (fun W kk => ⟨kk.cell x0, kk.cell x1, kk.cell r1, kk.cell a5⟩)
        have HAAW := Hid.mk (HAA.out.keep (Keep.refl y2))
        have HABW := Hid.mk (HAB.out.keep (Keep.refl y2))
        have HMW := Hid.mk (HH.out.keep (HK1.out.trans (Keep.refl y2)))
        have HKW := Hid.mk (Keep.refl y2)
        go_region_held3 (fun W : World => W.cell? ⟨gm, 0, none⟩ = some (.pointer (some ⟨gt, 0, none⟩)) ∧ W.cell? ⟨gm, 1, none⟩ = some (.slice (some ⟨g, 0, none⟩) O.length c) ∧ W.cell? ⟨g, i * 7 + 1, none⟩ = some (.int .i64 ((hat s.hs O[i]).node : Nat)) ∧ W.cell? ⟨gA, 5, none⟩ = some (.int .i64 (z : Nat)))
          (with_reducible first | assumption | exact ⟨x0, x1, r1, a5⟩ | exact HSK.out _ (Keep.refl y2).drew | exact S2 | exact S3 | exact HS.out _ _ _ S3 | exact HS.out _ _ _ (HS.out _ _ _ (HS.out _ _ _ (HS.out _ _ _ (HS.out _ _ _ (HS.out _ _ _ (HS.out _ _ _ (HS.out _ _ _ (HS.out _ _ _ S3)))))))))
          (first
            | (go_at_call 58; refine (HC2.out _ (HK1.out.trans (Keep.refl y2).drew)).mono ?_; rintro x y ⟨fp1, rfl, t1, s1⟩
               obtain ⟨M1, s2⟩ := (HMW.out.keep (Keep.refl y2).drew).step t1 s1
               have AA1 := s2.1.arr HNF.out.1 (HAAW.out.keep (Keep.refl y2).drew)
               have AB1 := s2.1.arr HNF.out.2.1 (HABW.out.keep (Keep.refl y2).drew)
               have S2 : (fun W : World => W.cell? ⟨gm, 0, none⟩ = some (.pointer (some ⟨gt, 0, none⟩)) ∧ W.cell? ⟨gm, 1, none⟩ = some (.slice (some ⟨g, 0, none⟩) O.length c) ∧ W.cell? ⟨g, i * 7 + 1, none⟩ = some (.int .i64 ((hat s.hs O[i]).node : Nat)) ∧ W.cell? ⟨gA, 5, none⟩ = some (.int .i64 (z : Nat))) y := ⟨M1.cells.1, M1.cells.2, (M1.rowAt hi).2.2.1, AA1.cell 5⟩
               have HM1 := Hid.mk M1
               have HS1 := Hid.mk ((Stp.keep (HKW.out.trans (Keep.refl y2).drew)).trans s2)
               have HAB1 := Hid.mk AB1
               clear M1 s1 s2 t1 AA1 AB1)
            | (go_at_call 56; refine (refuse_c rr _).mono ?_; rintro x y3 ⟨rfl, q2⟩
               have S3 : (fun W : World => W.cell? ⟨gm, 0, none⟩ = some (.pointer (some ⟨gt, 0, none⟩)) ∧ W.cell? ⟨gm, 1, none⟩ = some (.slice (some ⟨g, 0, none⟩) O.length c) ∧ W.cell? ⟨g, i * 7 + 1, none⟩ = some (.int .i64 ((hat s.hs O[i]).node : Nat)) ∧ W.cell? ⟨gA, 5, none⟩ = some (.int .i64 (z : Nat))) y3 := ⟨q2.cell S2.1, q2.cell S2.2.1, q2.cell S2.2.2.1, q2.cell S2.2.2.2⟩
               obtain ⟨b0, b1, b2, b3, b4, b5, b6, b7, b8, z0, z1, z2, z3, z4, z5, z6, z7, z8⟩ := z9 (HAB1.out.keep q2)
               have HE := Hid.mk (MP.fin (a := ⟨rr, 0, [], sta0, []⟩) (v := .slice none 0 0) HH.out HK1.out (HM1.out.keep q2) (HS1.out.trans (Stp.keep q2)) HGB.out (OwnS.nil _ _ _ _ _) (fr9 (.int .i64 rr) (.int .i64 0) (str []) (.int .i64 0) (.int .i64 0) (.int .i64 0) (.int .i64 0) (.int .i64 0) (.slice none 0 0)))
               have HAZ := Hid.mk (arr9 (HAB1.out.keep q2) (.int .i64 rr) (.int .i64 0) (str []) (.int .i64 0) (.int .i64 0) (.int .i64 0) (.int .i64 0) (.int .i64 0) (.slice none 0 0))
               clear q2))
        go_wp2_with fail
        refine bodyPost_ret (v := .agg (ansC ⟨rr, 0, [], sta0, []⟩ (.slice none 0 0)).toArray) (results_cell_row1 rfl _ _ gB 34 _ (0, 0) _ rfl HAZ.out Try.underlying34 rfl s34) rfl ?_
        rw [HV.out]
        exact HE.out
set_option maxRecDepth 8000 in
set_option maxHeartbeats 8000000 in
theorem mp8 {B gm gt k : Nat} {fp : Nat → Prop} {w : World} {s : Stt} {O : List Nat} {ov : Value} (o : OpV) (hK : o.kind = 8) (h : MW B fp w gm gt s O ov) (si : SI k s.u s.hs s.T) (hk : k ≤ 70000) (hp : o.path.length ≤ 100000) (hp2 : o.path2.length ≤ 100000) (hdt : o.data.length ≤ 100000) (fl : FL s.hs) :
    Calls Try.prog 15 #[.pointer (some ⟨gm, 0, none⟩), .agg (opC o).toArray] w fun e w' => MP B fp w gm gt ov ⟨(fstF s.u s.hs s.T o.h).2, 0, [], (fstF s.u s.hs s.T o.h).1, []⟩ s e w' := by
  have HH := Hid.mk h
  obtain ⟨ok, oh, ofl, omo, on, oo, owh, op, op2, od⟩ := o
  simp only at hK hp hp2 hdt ⊢
  subst hK
  obtain ⟨R, hR⟩ : ∃ R, R = fstF s.u s.hs s.T oh := ⟨_, rfl⟩
  rw [← hR]
  unfold fstF at hR
  cases ho : opn s.u oh with
  | false =>
    have hg : getOK s.u s.hs oh 0 = false := by rw [get0 fl, ho]
    rw [if_pos hg] at hR
    have HV := Hid.mk hR
    have WF := Hid.mk (fun W (kk : Keep w W) => where_f (h.keep kk) ho)
    clear hR hg ho h
    go_enter Try.func15, Try.ntmps15
    go_upto_region 1 with fail
    obtain ⟨w1, hw1⟩ : ∃ w1, w1 = (w.alloc (.cells (opC ⟨8, oh, ofl, omo, on, oo, owh, op, op2, od⟩).toArray 37)).alloc (.cells #[.int .i64 0, .int .i64 0, str [], .int .i64 0, .int .i64 0, .int .i64 0, .int .i64 0, .int .i64 0, .slice none 0 0] 34) := ⟨_, rfl⟩
    rw [← hw1]
    have TWO : Two w w1 ⟨8, oh, ofl, omo, on, oo, owh, op, op2, od⟩ := by rw [hw1]; exact Two.mk' w _
    obtain ⟨gA, hgA⟩ : ∃ g, g = w.heap.size := ⟨_, rfl⟩
    obtain ⟨gB, hgB⟩ : ∃ g, g = w.heap.size + 1 := ⟨_, rfl⟩
    have HGB : Hid (w.heap.size ≤ gB ∧ gB < w1.heap.size) := Hid.mk ⟨by omega, by rw [TWO.sz]; omega⟩
    have HAB : Hid (Arr w1 gB 34 zeroC) := Hid.mk (by rw [hgB]; exact TWO.b)
    have HAA : Hid (Arr w1 gA 37 (opC ⟨8, oh, ofl, omo, on, oo, owh, op, op2, od⟩)) := Hid.mk (by rw [hgA]; exact TWO.a)
    have K1 := TWO.k
    have HK1 := Hid.mk K1
    have HNF : Hid (¬ fpM fp gm ov gA ∧ ¬ fpM fp gm ov gB ∧ gA ≠ gB ∧ gm ≠ gB ∧ gm ≠ gA) := Hid.mk ⟨fun a => by have := HH.out.flt a; omega, fun a => by have := HH.out.flt a; omega, by omega, fun e => by have := HH.out.flt (Or.inr (Or.inl rfl) : fpM fp gm ov gm); omega, fun e => by have := HH.out.flt (Or.inr (Or.inl rfl) : fpM fp gm ov gm); omega⟩
    rw [← hgB, ← hgA]
    clear hw1 TWO hgA hgB
    have a0 := HAA.out.cell 0
    have a1 := HAA.out.cell 1
    have a2 := HAA.out.cell 2
    have a3 := HAA.out.cell 3
    have a4 := HAA.out.cell 4
    have a5 := HAA.out.cell 5
    have a6 := HAA.out.cell 6
    have a7 := HAA.out.cell 7
    have a8 := HAA.out.cell 8
    have a9 := HAA.out.cell 9
    simp only [opC, List.getElem?_cons_zero, List.getElem?_cons_succ] at a0 a1 a2 a3 a4 a5 a6 a7 a8 a9
    obtain ⟨x0, x1⟩ := (HH.out.keep K1).cells
    go_wp2_with fail
    refine (WF.out _ K1).mono ?_
    rintro e y1 ⟨rfl, hy1⟩
    subst hy1
    have HQ1 := Hid.mk (Keep.refl y1)
    go_wp2_with fail
    refine (refuse_c 1 _).mono ?_
    rintro e y2 ⟨rfl, q2⟩
    obtain ⟨b0, b1, b2, b3, b4, b5, b6, b7, b8, z0, z1, z2, z3, z4, z5, z6, z7, z8⟩ := z9 (HAB.out.keep (HQ1.out.trans q2))
    have HE := Hid.mk (MP.fin (a := ⟨1, 0, [], sta0, []⟩) (v := (.slice none 0 0)) HH.out HK1.out (HH.out.keep (HK1.out.trans (HQ1.out.trans q2))) (Stp.keep (HQ1.out.trans q2)) HGB.out (OwnS.nil _ _ _ _ _) (fr9 (.int .i64 1) (.int .i64 0) (str []) (.int .i64 0) (.int .i64 0) (.int .i64 0) (.int .i64 0) (.int .i64 0) (.slice none 0 0)))
    have HAZ := Hid.mk (arr9 (HAB.out.keep (HQ1.out.trans q2)) (.int .i64 1) (.int .i64 0) (str []) (.int .i64 0) (.int .i64 0) (.int .i64 0) (.int .i64 0) (.int .i64 0) (.slice none 0 0))
    clear q2
    go_wp2_with fail
    refine bodyPost_ret (v := .agg (ansC ⟨1, 0, [], sta0, []⟩ (.slice none 0 0)).toArray) (results_cell_row1 rfl _ _ gB 34 _ (0, 0) _ rfl HAZ.out Try.underlying34 rfl s34) rfl ?_
    rw [HV.out]
    exact HE.out
  | true =>
    have hg : getOK s.u s.hs oh 0 = true := by rw [get0 fl, ho]
    rw [if_neg (by rw [hg]; decide)] at hR
    clear hg
    obtain ⟨i, hi, hox, hox2⟩ := h.rel.idx ho
    have X := HX.of h.rel si hi
    have hfl := fl O[i]
    rw [hox2] at hR
    obtain ⟨g, c, hov, l1, l2, -⟩ := h.row hi
    subst hov
    have HWT : Hid (∀ W, Keep w W → Calls Try.prog 55 #[.pointer (some ⟨gm, 0, none⟩), .int .i64 oh] W fun e w' => e = .returned (.int .i64 i) ∧ w' = W) := Hid.mk (fun W (kk : Keep w W) => by rw [hox]; exact where_t (h.keep kk) hi)
    clear hox2 ho hox
    have HROW := Hid.mk (fun W (kk : Keep w W) => (h.keep kk).rowAt hi)
    have HTR := Hid.mk (fun W (kk : Keep w W) => (h.keep kk).tree.tr)
    have HKC := Hid.mk (fun W (kk : Keep w W) => kindOf_c (h.keep kk) X.nl)
    have HOFF := Hid.mk (fun W (M : MW B fp W gm gt s O (.slice (some ⟨g, 0, none⟩) O.length c)) z => M.setOff hi z)
    have HCUR := Hid.mk (fun W (M : MW B fp W gm gt s O (.slice (some ⟨g, 0, none⟩) O.length c)) z => M.setCur hi z)
    have i1 : (i : Int) < O.length := by omega
    have i2 : (0 : Int) ≤ i := by omega
    unfold maxLen at l2
    have hnl := X.nl
    have HSC := Hid.mk (fun W (kk : Keep w W) => statS_c gt (hat s.hs O[i]).node s.T W (h.keep kk).tree.tr hnl)
    generalize statF s.T (hat s.hs O[i]).node = S0 at *
    obtain ⟨sI, sK, sM, sL, sS⟩ := S0
    simp only at HSC
    have HV := Hid.mk hR
    clear hR h si fl hfl X
    go_enter Try.func15, Try.ntmps15
    go_upto_region 1 with fail
    obtain ⟨w1, hw1⟩ : ∃ w1, w1 = (w.alloc (.cells (opC ⟨8, oh, ofl, omo, on, oo, owh, op, op2, od⟩).toArray 37)).alloc (.cells #[.int .i64 0, .int .i64 0, str [], .int .i64 0, .int .i64 0, .int .i64 0, .int .i64 0, .int .i64 0, .slice none 0 0] 34) := ⟨_, rfl⟩
    rw [← hw1]
    have TWO : Two w w1 ⟨8, oh, ofl, omo, on, oo, owh, op, op2, od⟩ := by rw [hw1]; exact Two.mk' w _
    obtain ⟨gA, hgA⟩ : ∃ g, g = w.heap.size := ⟨_, rfl⟩
    obtain ⟨gB, hgB⟩ : ∃ g, g = w.heap.size + 1 := ⟨_, rfl⟩
    have HGB : Hid (w.heap.size ≤ gB ∧ gB < w1.heap.size) := Hid.mk ⟨by omega, by rw [TWO.sz]; omega⟩
    have HAB : Hid (Arr w1 gB 34 zeroC) := Hid.mk (by rw [hgB]; exact TWO.b)
    have HAA : Hid (Arr w1 gA 37 (opC ⟨8, oh, ofl, omo, on, oo, owh, op, op2, od⟩)) := Hid.mk (by rw [hgA]; exact TWO.a)
    have K1 := TWO.k
    have HK1 := Hid.mk K1
    have HNF : Hid (¬ fpM fp gm (.slice (some ⟨g, 0, none⟩) O.length c) gA ∧ ¬ fpM fp gm (.slice (some ⟨g, 0, none⟩) O.length c) gB ∧ gA ≠ gB ∧ gm ≠ gB ∧ gm ≠ gA) := Hid.mk ⟨fun a => by have := HH.out.flt a; omega, fun a => by have := HH.out.flt a; omega, by omega, fun e => by have := HH.out.flt (Or.inr (Or.inl rfl) : fpM fp gm (.slice (some ⟨g, 0, none⟩) O.length c) gm); omega, fun e => by have := HH.out.flt (Or.inr (Or.inl rfl) : fpM fp gm (.slice (some ⟨g, 0, none⟩) O.length c) gm); omega⟩
    rw [← hgB, ← hgA]
    clear hw1 TWO hgA hgB
    have a0 := HAA.out.cell 0
    have a1 := HAA.out.cell 1
    have a2 := HAA.out.cell 2
    have a3 := HAA.out.cell 3
    have a4 := HAA.out.cell 4
    have a5 := HAA.out.cell 5
    have a6 := HAA.out.cell 6
    have a7 := HAA.out.cell 7
    have a8 := HAA.out.cell 8
    have a9 := HAA.out.cell 9
    simp only [opC, List.getElem?_cons_zero, List.getElem?_cons_succ] at a0 a1 a2 a3 a4 a5 a6 a7 a8 a9
    obtain ⟨x0, x1⟩ := (HH.out.keep K1).cells
    obtain ⟨fz, r0, r1, r2, r3, r4, r5, r6⟩ := HROW.out _ K1
    go_wp2_with fail
    refine (HWT.out _ K1).mono ?_
    rintro e y1 ⟨rfl, hy1⟩
    subst hy1
    go_upto_region 25 with fail
    have HS : Hid (∀ (W : World) (jj : Nat) (v : Value), (W.cell? ⟨gm, 0, none⟩ = some (.pointer (some ⟨gt, 0, none⟩)) ∧ W.cell? ⟨gm, 1, none⟩ = some (.slice (some ⟨g, 0, none⟩) O.length c) ∧ W.cell? ⟨g, i * 7 + 1, none⟩ = some (.int .i64 ((hat s.hs O[i]).node : Nat))) → ((fun W : World => W.cell? ⟨gm, 0, none⟩ = some (.pointer (some ⟨gt, 0, none⟩)) ∧ W.cell? ⟨gm, 1, none⟩ = some (.slice (some ⟨g, 0, none⟩) O.length c) ∧ W.cell? ⟨g, i * 7 + 1, none⟩ = some (.int .i64 ((hat s.hs O[i]).node : Nat))) (W.setCell ⟨gB, jj, none⟩ v))) := Hid.mk (fun W jj v hc => ⟨(cell_other HNF.out.2.2.2.1 v).trans hc.1, (cell_other HNF.out.2.2.2.1 v).trans hc.2.1, (cell_other (fun e => HNF.out.2.1 (Or.inr (Or.inr (by rw [← e]; rfl)))) v).trans hc.2.2⟩)
    have HSK : Hid (∀ W : World, Keep y1 W → (W.cell? ⟨gm, 0, none⟩ = some (.pointer (some ⟨gt, 0, none⟩)) ∧ W.cell? ⟨gm, 1, none⟩ = some (.slice (some ⟨g, 0, none⟩) O.length c) ∧ W.cell? ⟨g, i * 7 + 1, none⟩ = some (.int .i64 ((hat s.hs O[i]).node : Nat)))) := Hid.mk (fun W kk => ⟨kk.cell x0, kk.cell x1, kk.cell r1⟩)
    have HAAW := Hid.mk (HAA.out.keep (Keep.refl y1))
    have HABW := Hid.mk (HAB.out.keep (Keep.refl y1))
    have HMW := Hid.mk (HH.out.keep (HK1.out.trans (Keep.refl y1)))
    have HKW := Hid.mk (Keep.refl y1)
    go_region_held3 (fun W : World => W.cell? ⟨gm, 0, none⟩ = some (.pointer (some ⟨gt, 0, none⟩)) ∧ W.cell? ⟨gm, 1, none⟩ = some (.slice (some ⟨g, 0, none⟩) O.length c) ∧ W.cell? ⟨g, i * 7 + 1, none⟩ = some (.int .i64 ((hat s.hs O[i]).node : Nat)))
      (with_reducible first | assumption | exact ⟨x0, x1, r1⟩ | exact HSK.out _ (Keep.refl y1).drew | exact S2 | exact S3 | exact HS.out _ _ _ S3 | exact HS.out _ _ _ (HS.out _ _ _ (HS.out _ _ _ (HS.out _ _ _ (HS.out _ _ _ (HS.out _ _ _ (HS.out _ _ _ (HS.out _ _ _ (HS.out _ _ _ S3)))))))))
      ((go_at_call 59; refine (HSC.out _ (HK1.out.trans (Keep.refl y1).drew)).mono ?_; rintro x y ⟨rfl, q1⟩
        have q2 := (Keep.refl y1).drew.trans q1
        have S3 : (fun W : World => W.cell? ⟨gm, 0, none⟩ = some (.pointer (some ⟨gt, 0, none⟩)) ∧ W.cell? ⟨gm, 1, none⟩ = some (.slice (some ⟨g, 0, none⟩) O.length c) ∧ W.cell? ⟨g, i * 7 + 1, none⟩ = some (.int .i64 ((hat s.hs O[i]).node : Nat))) y := HSK.out _ q2
        obtain ⟨b0, b1, b2, b3, b4, b5, b6, b7, b8, z0, z1, z2, z3, z4, z5, z6, z7, z8⟩ := z9 (HAB.out.keep q2)
        have HE := Hid.mk (MP.fin (a := ⟨0, 0, [], ⟨sI, sK, sM, sL, sS⟩, []⟩) (v := .slice none 0 0) HH.out HK1.out (HH.out.keep (HK1.out.trans q2)) (Stp.keep q2) HGB.out (OwnS.nil _ _ _ _ _) (fr9 (.int .i64 0) (.int .i64 0) (str []) (.int .i64 (sI : Nat)) (.int .i64 (sK : Nat)) (.int .i64 sM) (.int .i64 (sL : Nat)) (.int .i64 (sS : Nat)) (.slice none 0 0)))
        have HAZ := Hid.mk (arr9 (HAB.out.keep q2) (.int .i64 0) (.int .i64 0) (str []) (.int .i64 (sI : Nat)) (.int .i64 (sK : Nat)) (.int .i64 sM) (.int .i64 (sL : Nat)) (.int .i64 (sS : Nat)) (.slice none 0 0))
        clear q1 q2))
    go_wp2_with fail
    refine bodyPost_ret (v := .agg (ansC ⟨0, 0, [], ⟨sI, sK, sM, sL, sS⟩, []⟩ (.slice none 0 0)).toArray) (results_cell_row1 rfl _ _ gB 34 _ (0, 0) _ rfl HAZ.out Try.underlying34 rfl s34) rfl ?_
    rw [HV.out]
    exact HE.out
end Go.Proofs.Qxb6500767a
