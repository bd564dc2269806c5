/- unionvfsm: Play, the arms that set a mode, and readlink. -/
import Derived.Test.Qxb6500767aNe
namespace Go.Proofs.Qxb6500767a
open Go.RowKit Go.Qm
set_option linter.unusedVariables false
set_option linter.unusedSimpArgs false
attribute [local go_sem ↓] Go.wp_at_zero Go.wp_at_succ
set_option maxRecDepth 8000 in
set_option maxHeartbeats 8000000 in
theorem mp9 {B gm gt k : Nat} {fp : Nat → Prop} {w : World} {s : Stt} {O : List Nat} {ov : Value} (o : OpV) (hK : o.kind = 9) (h : MW B fp w gm gt s O ov) (si : SI k s.u s.hs s.T) (hk : k ≤ 70000) (hp : o.path.length ≤ 100000) (hp2 : o.path2.length ≤ 100000) (hdt : o.data.length ≤ 100000) (fl : FL s.hs) (hmr : -9223372036854775808 ≤ o.mode ∧ o.mode ≤ 9223372036854775807) :
    Calls Try.prog 15 #[.pointer (some ⟨gm, 0, none⟩), .agg (opC o).toArray] w fun e w' => MP B fp w gm gt ov ⟨(fchT s.u s.hs s.T o.h o.mode).2, 0, [], sta0, []⟩ ⟨s.u, s.hs, (fchT s.u s.hs s.T o.h o.mode).1⟩ e w' := by
  have HH := Hid.mk h
  obtain ⟨ok, oh, ofl, omo, on, oo, owh, op, op2, od⟩ := o
  simp only at hK hp hp2 hdt ⊢
  subst hK
  simp only at hmr
  obtain ⟨R, hR⟩ : ∃ R, R = fchT s.u s.hs s.T oh omo := ⟨_, rfl⟩
  rw [← hR]
  unfold fchT at hR
  rw [vm_md hmr.1 hmr.2] at hR
  have HMD := Hid.mk (fun W => modeOK_c omo W)
  cases ho : opn s.u oh with
  | false =>
    have hg : getOK s.u s.hs oh 0 = false := by rw [get0 fl, ho]
    rw [if_pos hg] at hR
    have HV := Hid.mk hR
    have WF := Hid.mk (fun W (kk : Keep w W) => where_f (h.keep kk) ho)
    clear hR hg ho h
    go_enter Try.func15, Try.ntmps15
    go_upto_region 1 with fail
    obtain ⟨w1, hw1⟩ : ∃ w1, w1 = (w.alloc (.cells (opC ⟨9, oh, ofl, omo, on, oo, owh, op, op2, od⟩).toArray 37)).alloc (.cells #[.int .i64 0, .int .i64 0, str [], .int .i64 0, .int .i64 0, .int .i64 0, .int .i64 0, .int .i64 0, .slice none 0 0] 34) := ⟨_, rfl⟩
    rw [← hw1]
    have TWO : Two w w1 ⟨9, oh, ofl, omo, on, oo, owh, op, op2, od⟩ := by rw [hw1]; exact Two.mk' w _
    obtain ⟨gA, hgA⟩ : ∃ g, g = w.heap.size := ⟨_, rfl⟩
    obtain ⟨gB, hgB⟩ : ∃ g, g = w.heap.size + 1 := ⟨_, rfl⟩
    have HGB : Hid (w.heap.size ≤ gB ∧ gB < w1.heap.size) := Hid.mk ⟨by omega, by rw [TWO.sz]; omega⟩
    have HAB : Hid (Arr w1 gB 34 zeroC) := Hid.mk (by rw [hgB]; exact TWO.b)
    have HAA : Hid (Arr w1 gA 37 (opC ⟨9, oh, ofl, omo, on, oo, owh, op, op2, od⟩)) := Hid.mk (by rw [hgA]; exact TWO.a)
    have K1 := TWO.k
    have HK1 := Hid.mk K1
    have HNF : Hid (¬ fpM fp gm ov gA ∧ ¬ fpM fp gm ov gB ∧ gA ≠ gB ∧ gm ≠ gB ∧ gm ≠ gA) := Hid.mk ⟨fun a => by have := HH.out.flt a; omega, fun a => by have := HH.out.flt a; omega, by omega, fun e => by have := HH.out.flt (Or.inr (Or.inl rfl) : fpM fp gm ov gm); omega, fun e => by have := HH.out.flt (Or.inr (Or.inl rfl) : fpM fp gm ov gm); omega⟩
    rw [← hgB, ← hgA]
    clear hw1 TWO hgA hgB
    have a0 := HAA.out.cell 0
    have a1 := HAA.out.cell 1
    have a2 := HAA.out.cell 2
    have a3 := HAA.out.cell 3
    have a4 := HAA.out.cell 4
    have a5 := HAA.out.cell 5
    have a6 := HAA.out.cell 6
    have a7 := HAA.out.cell 7
    have a8 := HAA.out.cell 8
    have a9 := HAA.out.cell 9
    simp only [opC, List.getElem?_cons_zero, List.getElem?_cons_succ] at a0 a1 a2 a3 a4 a5 a6 a7 a8 a9
    obtain ⟨x0, x1⟩ := (HH.out.keep K1).cells
    go_wp2_with fail
    refine (WF.out _ K1).mono ?_
    rintro e y1 ⟨rfl, hy1⟩
    subst hy1
    have HQ1 := Hid.mk (Keep.refl y1)
    go_wp2_with fail
    refine (refuse_c 1 _).mono ?_
    rintro e y2 ⟨rfl, q2⟩
    obtain ⟨b0, b1, b2, b3, b4, b5, b6, b7, b8, z0, z1, z2, z3, z4, z5, z6, z7, z8⟩ := z9 (HAB.out.keep (HQ1.out.trans q2))
    have HE := Hid.mk (MP.fin (a := ⟨1, 0, [], sta0, []⟩) (v := (.slice none 0 0)) HH.out HK1.out (HH.out.keep (HK1.out.trans (HQ1.out.trans q2))) (Stp.keep (HQ1.out.trans q2)) HGB.out (OwnS.nil _ _ _ _ _) (fr9 (.int .i64 1) (.int .i64 0) (str []) (.int .i64 0) (.int .i64 0) (.int .i64 0) (.int .i64 0) (.int .i64 0) (.slice none 0 0)))
    have HAZ := Hid.mk (arr9 (HAB.out.keep (HQ1.out.trans q2)) (.int .i64 1) (.int .i64 0) (str []) (.int .i64 0) (.int .i64 0) (.int .i64 0) (.int .i64 0) (.int .i64 0) (.slice none 0 0))
    clear q2
    go_wp2_with fail
    refine bodyPost_ret (v := .agg (ansC ⟨1, 0, [], sta0, []⟩ (.slice none 0 0)).toArray) (results_cell_row1 rfl _ _ gB 34 _ (0, 0) _ rfl HAZ.out Try.underlying34 rfl s34) rfl ?_
    rw [HV.out]
    exact HE.out
  | true =>
    have hg : getOK s.u s.hs oh 0 = true := by rw [get0 fl, ho]
    rw [if_neg (by rw [hg]; decide)] at hR
    clear hg
    obtain ⟨i, hi, hox, hox2⟩ := h.rel.idx ho
    have X := HX.of h.rel si hi
    have hfl := fl O[i]
    rw [hox2] at hR
    obtain ⟨g, c, hov, l1, l2, -⟩ := h.row hi
    subst hov
    have HWT : Hid (∀ W, Keep w W → Calls Try.prog 55 #[.pointer (some ⟨gm, 0, none⟩), .int .i64 oh] W fun e w' => e = .returned (.int .i64 i) ∧ w' = W) := Hid.mk (fun W (kk : Keep w W) => by rw [hox]; exact where_t (h.keep kk) hi)
    clear hox2 ho hox
    have HROW := Hid.mk (fun W (kk : Keep w W) => (h.keep kk).rowAt hi)
    have HTR := Hid.mk (fun W (kk : Keep w W) => (h.keep kk).tree.tr)
    have HKC := Hid.mk (fun W (kk : Keep w W) => kindOf_c (h.keep kk) X.nl)
    have HOFF := Hid.mk (fun W (M : MW B fp W gm gt s O (.slice (some ⟨g, 0, none⟩) O.length c)) z => M.setOff hi z)
    have HCUR := Hid.mk (fun W (M : MW B fp W gm gt s O (.slice (some ⟨g, 0, none⟩) O.length c)) z => M.setCur hi z)
    have i1 : (i : Int) < O.length := by omega
    have i2 : (0 : Int) ≤ i := by omega
    unfold maxLen at l2
    have hnl := X.nl
    cases hv : mdB omo with
    | false =>
      rw [if_pos hv] at hR
      have HV := Hid.mk hR
      rw [hv] at HMD
      clear hv
      clear hR h si fl hfl X
      go_enter Try.func15, Try.ntmps15
      go_upto_region 1 with fail
      obtain ⟨w1, hw1⟩ : ∃ w1, w1 = (w.alloc (.cells (opC ⟨9, oh, ofl, omo, on, oo, owh, op, op2, od⟩).toArray 37)).alloc (.cells #[.int .i64 0, .int .i64 0, str [], .int .i64 0, .int .i64 0, .int .i64 0, .int .i64 0, .int .i64 0, .slice none 0 0] 34) := ⟨_, rfl⟩
      rw [← hw1]
      have TWO : Two w w1 ⟨9, oh, ofl, omo, on, oo, owh, op, op2, od⟩ := by rw [hw1]; exact Two.mk' w _
      obtain ⟨gA, hgA⟩ : ∃ g, g = w.heap.size := ⟨_, rfl⟩
      obtain ⟨gB, hgB⟩ : ∃ g, g = w.heap.size + 1 := ⟨_, rfl⟩
      have HGB : Hid (w.heap.size ≤ gB ∧ gB < w1.heap.size) := Hid.mk ⟨by omega, by rw [TWO.sz]; omega⟩
      have HAB : Hid (Arr w1 gB 34 zeroC) := Hid.mk (by rw [hgB]; exact TWO.b)
      have HAA : Hid (Arr w1 gA 37 (opC ⟨9, oh, ofl, omo, on, oo, owh, op, op2, od⟩)) := Hid.mk (by rw [hgA]; exact TWO.a)
      have K1 := TWO.k
      have HK1 := Hid.mk K1
      have HNF : Hid (¬ fpM fp gm (.slice (some ⟨g, 0, none⟩) O.length c) gA ∧ ¬ fpM fp gm (.slice (some ⟨g, 0, none⟩) O.length c) gB ∧ gA ≠ gB ∧ gm ≠ gB ∧ gm ≠ gA) := Hid.mk ⟨fun a => by have := HH.out.flt a; omega, fun a => by have := HH.out.flt a; omega, by omega, fun e => by have := HH.out.flt (Or.inr (Or.inl rfl) : fpM fp gm (.slice (some ⟨g, 0, none⟩) O.length c) gm); omega, fun e => by have := HH.out.flt (Or.inr (Or.inl rfl) : fpM fp gm (.slice (some ⟨g, 0, none⟩) O.length c) gm); omega⟩
      rw [← hgB, ← hgA]
      clear hw1 TWO hgA hgB
      have a0 := HAA.out.cell 0
      have a1 := HAA.out.cell 1
      have a2 := HAA.out.cell 2
      have a3 := HAA.out.cell 3
      have a4 := HAA.out.cell 4
      have a5 := HAA.out.cell 5
      have a6 := HAA.out.cell 6
      have a7 := HAA.out.cell 7
      have a8 := HAA.out.cell 8
      have a9 := HAA.out.cell 9
      simp only [opC, List.getElem?_cons_zero, List.getElem?_cons_succ] at a0 a1 a2 a3 a4 a5 a6 a7 a8 a9
      obtain ⟨x0, x1⟩ := (HH.out.keep K1).cells
      obtain ⟨fz, r0, r1, r2, r3, r4, r5, r6⟩ := HROW.out _ K1
      go_wp2_with fail
      refine (HWT.out _ K1).mono ?_
      rintro e y1 ⟨rfl, hy1⟩
      subst hy1
      go_wp2_with fail
      refine (HMD.out _).mono ?_
      rintro e y2 ⟨rfl, hy2⟩
      subst hy2
      go_wp2_with fail
      refine (refuse_c 2 _).mono ?_
      rintro e y3 ⟨rfl, q2⟩
      obtain ⟨b0, b1, b2, b3, b4, b5, b6, b7, b8, z0, z1, z2, z3, z4, z5, z6, z7, z8⟩ := z9 (HAB.out.keep ((Keep.refl y2).trans q2))
      have HE := Hid.mk (MP.fin (a := ⟨2, 0, [], sta0, []⟩) (v := (.slice none 0 0)) HH.out HK1.out (HH.out.keep (HK1.out.trans ((Keep.refl y2).trans q2))) (Stp.keep ((Keep.refl y2).trans q2)) HGB.out (OwnS.nil _ _ _ _ _) (fr9 (.int .i64 2) (.int .i64 0) (str []) (.int .i64 0) (.int .i64 0) (.int .i64 0) (.int .i64 0) (.int .i64 0) (.slice none 0 0)))
      have HAZ := Hid.mk (arr9 (HAB.out.keep ((Keep.refl y2).trans q2)) (.int .i64 2) (.int .i64 0) (str []) (.int .i64 0) (.int .i64 0) (.int .i64 0) (.int .i64 0) (.int .i64 0) (.slice none 0 0))
      clear q2
      go_wp2_with fail
      refine bodyPost_ret (v := .agg (ansC ⟨2, 0, [], sta0, []⟩ (.slice none 0 0)).toArray) (results_cell_row1 rfl _ _ gB 34 _ (0, 0) _ rfl HAZ.out Try.underlying34 rfl s34) rfl ?_
      rw [HV.out]
      exact HE.out
    | true =>
      rw [if_neg (by rw [hv]; decide)] at hR
      have HV := Hid.mk hR
      rw [hv] at HMD
      clear hv
      clear hR h si fl hfl X
      go_enter Try.func15, Try.ntmps15
      go_upto_region 1 with fail
      obtain ⟨w1, hw1⟩ : ∃ w1, w1 = (w.alloc (.cells (opC ⟨9, oh, ofl, omo, on, oo, owh, op, op2, od⟩).toArray 37)).alloc (.cells #[.int .i64 0, .int .i64 0, str [], .int .i64 0, .int .i64 0, .int .i64 0, .int .i64 0, .int .i64 0, .slice none 0 0] 34) := ⟨_, rfl⟩
      rw [← hw1]
      have TWO : Two w w1 ⟨9, oh, ofl, omo, on, oo, owh, op, op2, od⟩ := by rw [hw1]; exact Two.mk' w _
      obtain ⟨gA, hgA⟩ : ∃ g, g = w.heap.size := ⟨_, rfl⟩
      obtain ⟨gB, hgB⟩ : ∃ g, g = w.heap.size + 1 := ⟨_, rfl⟩
      have HGB : Hid (w.heap.size ≤ gB ∧ gB < w1.heap.size) := Hid.mk ⟨by omega, by rw [TWO.sz]; omega⟩
      have HAB : Hid (Arr w1 gB 34 zeroC) := Hid.mk (by rw [hgB]; exact TWO.b)
      have HAA : Hid (Arr w1 gA 37 (opC ⟨9, oh, ofl, omo, on, oo, owh, op, op2, od⟩)) := Hid.mk (by rw [hgA]; exact TWO.a)
      have K1 := TWO.k
      have HK1 := Hid.mk K1
      have HNF : Hid (¬ fpM fp gm (.slice (some ⟨g, 0, none⟩) O.length c) gA ∧ ¬ fpM fp gm (.slice (some ⟨g, 0, none⟩) O.length c) gB ∧ gA ≠ gB ∧ gm ≠ gB ∧ gm ≠ gA) := Hid.mk ⟨fun a => by have := HH.out.flt a; omega, fun a => by have := HH.out.flt a; omega, by omega, fun e => by have := HH.out.flt (Or.inr (Or.inl rfl) : fpM fp gm (.slice (some ⟨g, 0, none⟩) O.length c) gm); omega, fun e => by have := HH.out.flt (Or.inr (Or.inl rfl) : fpM fp gm (.slice (some ⟨g, 0, none⟩) O.length c) gm); omega⟩
      rw [← hgB, ← hgA]
      clear hw1 TWO hgA hgB
      have a0 := HAA.out.cell 0
      have a1 := HAA.out.cell 1
      have a2 := HAA.out.cell 2
      have a3 := HAA.out.cell 3
      have a4 := HAA.out.cell 4
      have a5 := HAA.out.cell 5
      have a6 := HAA.out.cell 6
      have a7 := HAA.out.cell 7
      have a8 := HAA.out.cell 8
      have a9 := HAA.out.cell 9
      simp only [opC, List.getElem?_cons_zero, List.getElem?_cons_succ] at a0 a1 a2 a3 a4 a5 a6 a7 a8 a9
      obtain ⟨x0, x1⟩ := (HH.out.keep K1).cells
      obtain ⟨fz, r0, r1, r2, r3, r4, r5, r6⟩ := HROW.out _ K1
      go_wp2_with fail
      refine (HWT.out _ K1).mono ?_
      rintro e y1 ⟨rfl, hy1⟩
      subst hy1
      go_wp2_with fail
      refine (HMD.out _).mono ?_
      rintro e y2 ⟨rfl, hy2⟩
      subst hy2
      obtain ⟨bn, cap, c0, l1', l2', ⟨-, n1, -, -, -⟩, fzt, nm, -⟩ := (HH.out.keep (HK1.out.trans (Keep.refl y2))).tree.num hnl
      obtain ⟨fp2, t2, s2⟩ := nm omo
      obtain ⟨M2, s3⟩ := (HH.out.keep (HK1.out.trans (Keep.refl y2))).step t2 s2
      have HM2 := Hid.mk M2
      have HS2 := Hid.mk ((Stp.keep (Keep.refl y2)).trans s3)
      have HAB2 := Hid.mk (s3.1.arr HNF.out.2.1 (HAB.out.keep (Keep.refl y2)))
      have f1 := fzt ((hat s.hs O[i]).node * 7 + 1)
      have j1 : (((hat s.hs O[i]).node : Nat) : Int) < s.T.length := by omega
      have j2 : (0 : Int) ≤ (((hat s.hs O[i]).node : Nat) : Int) := by omega
      unfold maxLen at l2'
      clear nm t2 s2 M2 s3 fzt
      go_upto_region 32 with fail
      go_region
      generalize y2.setCell ⟨bn, (hat s.hs O[i]).node * 7 + 1, none⟩ (.int .i64 omo) = y6 at *
      obtain ⟨y7, hy7⟩ : ∃ y7, y7 = y6.drew := ⟨_, rfl⟩
      rw [← hy7]
      have k7 : Keep y6 y7 := by rw [hy7]; exact (Keep.refl y6).drew
      have HK7 := Hid.mk k7
      clear hy7 k7 c0 n1 f1 x0 x1
      obtain ⟨b0, b1, b2, b3, b4, b5, b6, b7, b8, z0, z1, z2, z3, z4, z5, z6, z7, z8⟩ := z9 (HAB2.out.keep HK7.out)
      have HE := Hid.mk (MP.fin (a := ⟨0, 0, [], sta0, []⟩) (v := (.slice none 0 0)) HH.out HK1.out (HM2.out.keep HK7.out) (HS2.out.trans (Stp.keep HK7.out)) HGB.out (OwnS.nil _ _ _ _ _) (fr9 (.int .i64 0) (.int .i64 0) (str []) (.int .i64 0) (.int .i64 0) (.int .i64 0) (.int .i64 0) (.int .i64 0) (.slice none 0 0)))
      have HAZ := Hid.mk (arr9 (HAB2.out.keep HK7.out) (.int .i64 0) (.int .i64 0) (str []) (.int .i64 0) (.int .i64 0) (.int .i64 0) (.int .i64 0) (.int .i64 0) (.slice none 0 0))
      go_wp2_with fail
      refine bodyPost_ret (v := .agg (ansC ⟨0, 0, [], sta0, []⟩ (.slice none 0 0)).toArray) (results_cell_row1 rfl _ _ gB 34 _ (0, 0) _ rfl HAZ.out Try.underlying34 rfl s34) rfl ?_
      rw [HV.out]
      exact HE.out
set_option maxRecDepth 8000 in
set_option maxHeartbeats 8000000 in
theorem mp13 {B gm gt k : Nat} {fp : Nat → Prop} {w : World} {s : Stt} {O : List Nat} {ov : Value} (o : OpV) (hK : o.kind = 13) (h : MW B fp w gm gt s O ov) (si : SI k s.u s.hs s.T) (hk : k ≤ 70000) (hp : o.path.length ≤ 100000) (hp2 : o.path2.length ≤ 100000) (hdt : o.data.length ≤ 100000) (hmr : -9223372036854775808 ≤ o.mode ∧ o.mode ≤ 9223372036854775807) :
    Calls Try.prog 15 #[.pointer (some ⟨gm, 0, none⟩), .agg (opC o).toArray] w fun e w' => MP B fp w gm gt ov ⟨(chpT s.T o.path o.mode).2, 0, [], sta0, []⟩ ⟨s.u, s.hs, (chpT s.T o.path o.mode).1⟩ e w' := by
  have HH := Hid.mk h
  obtain ⟨ok, oh, ofl, omo, on, oo, owh, op, op2, od⟩ := o
  simp only at hK hp hp2 hdt ⊢
  subst hK
  simp only at hmr
  obtain ⟨R, hR⟩ : ∃ R, R = chpT s.T op omo := ⟨_, rfl⟩
  rw [← hR]
  unfold chpT at hR
  rw [vm_md hmr.1 hmr.2] at hR
  have HMD := Hid.mk (fun W => modeOK_c omo W)
  have lim := si.lim (by omega)
  have HWC := Hid.mk (fun W (kk : Keep w W) => walk_c gt s.T true op W (h.keep kk).tree.tr lim.ok hp)
  have hnl := si.t.lt (path_live si.t op true).1
  generalize pathF s.T op true = PF at *
  obtain ⟨nd, er⟩ := PF
  simp only at hR HWC hnl
  clear lim si h
  cases hv : mdB omo with
  | false =>
    rw [if_pos hv] at hR
    have HV := Hid.mk hR
    rw [hv] at HMD
    clear hv hR
    go_enter Try.func15, Try.ntmps15
    go_upto_region 1 with fail
    obtain ⟨w1, hw1⟩ : ∃ w1, w1 = (w.alloc (.cells (opC ⟨13, oh, ofl, omo, on, oo, owh, op, op2, od⟩).toArray 37)).alloc (.cells #[.int .i64 0, .int .i64 0, str [], .int .i64 0, .int .i64 0, .int .i64 0, .int .i64 0, .int .i64 0, .slice none 0 0] 34) := ⟨_, rfl⟩
    rw [← hw1]
    have TWO : Two w w1 ⟨13, oh, ofl, omo, on, oo, owh, op, op2, od⟩ := by rw [hw1]; exact Two.mk' w _
    obtain ⟨gA, hgA⟩ : ∃ g, g = w.heap.size := ⟨_, rfl⟩
    obtain ⟨gB, hgB⟩ : ∃ g, g = w.heap.size + 1 := ⟨_, rfl⟩
    have HGB : Hid (w.heap.size ≤ gB ∧ gB < w1.heap.size) := Hid.mk ⟨by omega, by rw [TWO.sz]; omega⟩
    have HAB : Hid (Arr w1 gB 34 zeroC) := Hid.mk (by rw [hgB]; exact TWO.b)
    have HAA : Hid (Arr w1 gA 37 (opC ⟨13, oh, ofl, omo, on, oo, owh, op, op2, od⟩)) := Hid.mk (by rw [hgA]; exact TWO.a)
    have K1 := TWO.k
    have HK1 := Hid.mk K1
    have HNF : Hid (¬ fpM fp gm ov gA ∧ ¬ fpM fp gm ov gB ∧ gA ≠ gB ∧ gm ≠ gB ∧ gm ≠ gA) := Hid.mk ⟨fun a => by have := HH.out.flt a; omega, fun a => by have := HH.out.flt a; omega, by omega, fun e => by have := HH.out.flt (Or.inr (Or.inl rfl) : fpM fp gm ov gm); omega, fun e => by have := HH.out.flt (Or.inr (Or.inl rfl) : fpM fp gm ov gm); omega⟩
    rw [← hgB, ← hgA]
    clear hw1 TWO hgA hgB
    have a0 := HAA.out.cell 0
    have a1 := HAA.out.cell 1
    have a2 := HAA.out.cell 2
    have a3 := HAA.out.cell 3
    have a4 := HAA.out.cell 4
    have a5 := HAA.out.cell 5
    have a6 := HAA.out.cell 6
    have a7 := HAA.out.cell 7
    have a8 := HAA.out.cell 8
    have a9 := HAA.out.cell 9
    simp only [opC, List.getElem?_cons_zero, List.getElem?_cons_succ] at a0 a1 a2 a3 a4 a5 a6 a7 a8 a9
    obtain ⟨x0, x1⟩ := (HH.out.keep K1).cells
    go_wp2_with fail
    refine (HMD.out _).mono ?_
    rintro e y2 ⟨rfl, hy2⟩
    subst hy2
    go_wp2_with fail
    refine (refuse_c 2 _).mono ?_
    rintro e y3 ⟨rfl, q2⟩
    obtain ⟨b0, b1, b2, b3, b4, b5, b6, b7, b8, z0, z1, z2, z3, z4, z5, z6, z7, z8⟩ := z9 (HAB.out.keep ((Keep.refl y2).trans q2))
    have HE := Hid.mk (MP.fin (a := ⟨2, 0, [], sta0, []⟩) (v := (.slice none 0 0)) HH.out HK1.out (HH.out.keep (HK1.out.trans ((Keep.refl y2).trans q2))) (Stp.keep ((Keep.refl y2).trans q2)) HGB.out (OwnS.nil _ _ _ _ _) (fr9 (.int .i64 2) (.int .i64 0) (str []) (.int .i64 0) (.int .i64 0) (.int .i64 0) (.int .i64 0) (.int .i64 0) (.slice none 0 0)))
    have HAZ := Hid.mk (arr9 (HAB.out.keep ((Keep.refl y2).trans q2)) (.int .i64 2) (.int .i64 0) (str []) (.int .i64 0) (.int .i64 0) (.int .i64 0) (.int .i64 0) (.int .i64 0) (.slice none 0 0))
    clear q2
    go_wp2_with fail
    refine bodyPost_ret (v := .agg (ansC ⟨2, 0, [], sta0, []⟩ (.slice none 0 0)).toArray) (results_cell_row1 rfl _ _ gB 34 _ (0, 0) _ rfl HAZ.out Try.underlying34 rfl s34) rfl ?_
    rw [HV.out]
    exact HE.out
  | true =>
    rw [if_neg (by rw [hv]; decide)] at hR
    rw [hv] at HMD
    clear hv
    go_enter Try.func15, Try.ntmps15
    go_upto_region 1 with fail
    obtain ⟨w1, hw1⟩ : ∃ w1, w1 = (w.alloc (.cells (opC ⟨13, oh, ofl, omo, on, oo, owh, op, op2, od⟩).toArray 37)).alloc (.cells #[.int .i64 0, .int .i64 0, str [], .int .i64 0, .int .i64 0, .int .i64 0, .int .i64 0, .int .i64 0, .slice none 0 0] 34) := ⟨_, rfl⟩
    rw [← hw1]
    have TWO : Two w w1 ⟨13, oh, ofl, omo, on, oo, owh, op, op2, od⟩ := by rw [hw1]; exact Two.mk' w _
    obtain ⟨gA, hgA⟩ : ∃ g, g = w.heap.size := ⟨_, rfl⟩
    obtain ⟨gB, hgB⟩ : ∃ g, g = w.heap.size + 1 := ⟨_, rfl⟩
    have HGB : Hid (w.heap.size ≤ gB ∧ gB < w1.heap.size) := Hid.mk ⟨by omega, by rw [TWO.sz]; omega⟩
    have HAB : Hid (Arr w1 gB 34 zeroC) := Hid.mk (by rw [hgB]; exact TWO.b)
    have HAA : Hid (Arr w1 gA 37 (opC ⟨13, oh, ofl, omo, on, oo, owh, op, op2, od⟩)) := Hid.mk (by rw [hgA]; exact TWO.a)
    have K1 := TWO.k
    have HK1 := Hid.mk K1
    have HNF : Hid (¬ fpM fp gm ov gA ∧ ¬ fpM fp gm ov gB ∧ gA ≠ gB ∧ gm ≠ gB ∧ gm ≠ gA) := Hid.mk ⟨fun a => by have := HH.out.flt a; omega, fun a => by have := HH.out.flt a; omega, by omega, fun e => by have := HH.out.flt (Or.inr (Or.inl rfl) : fpM fp gm ov gm); omega, fun e => by have := HH.out.flt (Or.inr (Or.inl rfl) : fpM fp gm ov gm); omega⟩
    rw [← hgB, ← hgA]
    clear hw1 TWO hgA hgB
    have a0 := HAA.out.cell 0
    have a1 := HAA.out.cell 1
    have a2 := HAA.out.cell 2
    have a3 := HAA.out.cell 3
    have a4 := HAA.out.cell 4
    have a5 := HAA.out.cell 5
    have a6 := HAA.out.cell 6
    have a7 := HAA.out.cell 7
    have a8 := HAA.out.cell 8
    have a9 := HAA.out.cell 9
    simp only [opC, List.getElem?_cons_zero, List.getElem?_cons_succ] at a0 a1 a2 a3 a4 a5 a6 a7 a8 a9
    obtain ⟨x0, x1⟩ := (HH.out.keep K1).cells
    go_wp2_with fail
    refine (HMD.out _).mono ?_
    rintro e y2 ⟨rfl, hy2⟩
    subst hy2
    go_upto_region 43 with fail
    go_cut [8, 9] from 168 to 177 (fun va vb wx => va = .int .i64 (nd : Nat) ∧ vb = .int .i64 er ∧ Keep y2 wx)
    case first =>
      have HSK : Hid (∀ W : World, Keep y2 W → W.cell? ⟨gm, 0, none⟩ = some (.pointer (some ⟨gt, 0, none⟩)) ∧ W.cell? ⟨gA, 7, none⟩ = some (str op)) := Hid.mk (fun W kk => ⟨kk.cell x0, kk.cell a7⟩)
      go_region_held3 (fun W : World => W.cell? ⟨gm, 0, none⟩ = some (.pointer (some ⟨gt, 0, none⟩)) ∧ W.cell? ⟨gA, 7, none⟩ = some (str op))
        (with_reducible first | assumption | exact ⟨x0, a7⟩ | exact HSK.out _ (Keep.refl y2).drew | exact HSK.out _ Q2)
        ((go_at_call 63; refine (HWC.out _ (HK1.out.trans (Keep.refl y2).drew)).mono ?_; rintro x y ⟨rfl, q2⟩; have Q2 := (Keep.refl y2).drew.trans q2))
      go_wp2_with fail
      go_meet
      case rel => exact ⟨rfl, rfl, Q2⟩
    case rest =>
      obtain ⟨rfl, rfl, q3⟩ := hcut
      obtain ⟨y3, hy3⟩ : ∃ y3, y3 = wc := ⟨_, rfl⟩
      subst hy3
      have HQ3 := Hid.mk q3
      replace x0 := q3.cell x0
      replace x1 := q3.cell x1
      replace a3 := q3.cell a3
      clear q3 a0 a1 a2 a4 a5 a6 a7 a8 a9
      by_cases he : er = 0
      · rw [if_neg (by simpa using he)] at hR
        have HV := Hid.mk hR
        have n1' : (er != 0) = false := by simpa using he
        clear hR he
        obtain ⟨bn, cap, c0, l1', l2', ⟨-, n1, -, -, -⟩, fzt, nm, -⟩ := (HH.out.keep (HK1.out.trans HQ3.out)).tree.num hnl
        obtain ⟨fp2, t2, s2⟩ := nm omo
        obtain ⟨M2, s3⟩ := (HH.out.keep (HK1.out.trans HQ3.out)).step t2 s2
        have HM2 := Hid.mk M2
        have HS2 := Hid.mk ((Stp.keep HQ3.out).trans s3)
        have HAB2 := Hid.mk (s3.1.arr HNF.out.2.1 (HAB.out.keep HQ3.out))
        have f1 := fzt (nd * 7 + 1)
        have j1 : ((nd : Nat) : Int) < s.T.length := by omega
        have j2 : (0 : Int) ≤ ((nd : Nat) : Int) := by omega
        unfold maxLen at l2'
        clear nm t2 s2 M2 s3 fzt
        go_upto_region 46 with fail
        go_region
        generalize y3.setCell ⟨bn, nd * 7 + 1, none⟩ (.int .i64 omo) = y6 at *
        obtain ⟨y7, hy7⟩ : ∃ y7, y7 = y6.drew := ⟨_, rfl⟩
        rw [← hy7]
        have k7 : Keep y6 y7 := by rw [hy7]; exact (Keep.refl y6).drew
        have HK7 := Hid.mk k7
        clear hy7 k7 c0 n1 f1 x0 x1
        obtain ⟨b0, b1, b2, b3, b4, b5, b6, b7, b8, z0, z1, z2, z3, z4, z5, z6, z7, z8⟩ := z9 (HAB2.out.keep HK7.out)
        have HE := Hid.mk (MP.fin (a := ⟨0, 0, [], sta0, []⟩) (v := (.slice none 0 0)) HH.out HK1.out (HM2.out.keep HK7.out) (HS2.out.trans (Stp.keep HK7.out)) HGB.out (OwnS.nil _ _ _ _ _) (fr9 (.int .i64 0) (.int .i64 0) (str []) (.int .i64 0) (.int .i64 0) (.int .i64 0) (.int .i64 0) (.int .i64 0) (.slice none 0 0)))
        have HAZ := Hid.mk (arr9 (HAB2.out.keep HK7.out) (.int .i64 0) (.int .i64 0) (str []) (.int .i64 0) (.int .i64 0) (.int .i64 0) (.int .i64 0) (.int .i64 0) (.slice none 0 0))
        go_wp2_with fail
        refine bodyPost_ret (v := .agg (ansC ⟨0, 0, [], sta0, []⟩ (.slice none 0 0)).toArray) (results_cell_row1 rfl _ _ gB 34 _ (0, 0) _ rfl HAZ.out Try.underlying34 rfl s34) rfl ?_
        rw [HV.out]
        exact HE.out
      · rw [if_pos he] at hR
        have HV := Hid.mk hR
        have n1' : (er != 0) = true := by simpa using he
        clear hR he
        go_wp2_with fail
        refine (refuse_c er _).mono ?_
        rintro e y4 ⟨rfl, q2⟩
        obtain ⟨b0, b1, b2, b3, b4, b5, b6, b7, b8, z0, z1, z2, z3, z4, z5, z6, z7, z8⟩ := z9 (HAB.out.keep (HQ3.out.trans q2))
        have HE := Hid.mk (MP.fin (a := ⟨er, 0, [], sta0, []⟩) (v := (.slice none 0 0)) HH.out HK1.out (HH.out.keep (HK1.out.trans (HQ3.out.trans q2))) (Stp.keep (HQ3.out.trans q2)) HGB.out (OwnS.nil _ _ _ _ _) (fr9 (.int .i64 er) (.int .i64 0) (str []) (.int .i64 0) (.int .i64 0) (.int .i64 0) (.int .i64 0) (.int .i64 0) (.slice none 0 0)))
        have HAZ := Hid.mk (arr9 (HAB.out.keep (HQ3.out.trans q2)) (.int .i64 er) (.int .i64 0) (str []) (.int .i64 0) (.int .i64 0) (.int .i64 0) (.int .i64 0) (.int .i64 0) (.slice none 0 0))
        clear q2
        go_wp2_with fail
        refine bodyPost_ret (v := .agg (ansC ⟨er, 0, [], sta0, []⟩ (.slice none 0 0)).toArray) (results_cell_row1 rfl _ _ gB 34 _ (0, 0) _ rfl HAZ.out Try.underlying34 rfl s34) rfl ?_
        rw [HV.out]
        exact HE.out
theorem readF_all (d : List UInt8) : readF d 0 d.length = d := by unfold readF; rw [List.drop_zero, List.take_length]
set_option maxRecDepth 8000 in
set_option maxHeartbeats 8000000 in
theorem mp15 {B gm gt k : Nat} {fp : Nat → Prop} {w : World} {s : Stt} {O : List Nat} {ov : Value} (o : OpV) (hK : o.kind = 15) (h : MW B fp w gm gt s O ov) (si : SI k s.u s.hs s.T) (hk : k ≤ 70000) (hp : o.path.length ≤ 100000) (hp2 : o.path2.length ≤ 100000) (hdt : o.data.length ≤ 100000)  :
    Calls Try.prog 15 #[.pointer (some ⟨gm, 0, none⟩), .agg (opC o).toArray] w fun e w' => MP B fp w gm gt ov ⟨(rlkF s.T o.path).2, 0, (rlkF s.T o.path).1, sta0, []⟩ s e w' := by
  have HH := Hid.mk h
  obtain ⟨ok, oh, ofl, omo, on, oo, owh, op, op2, od⟩ := o
  simp only at hK hp hp2 hdt ⊢
  subst hK
  obtain ⟨R, hR⟩ : ∃ R, R = rlkF s.T op := ⟨_, rfl⟩
  rw [← hR]
  unfold rlkF at hR
  have lim := si.lim (by omega)
  have HWC := Hid.mk (fun W (kk : Keep w W) => walk_c gt s.T false op W (h.keep kk).tree.tr lim.ok hp)
  have hnl := si.t.lt (path_live si.t op false).1
  have HKC := Hid.mk (fun W (kk : Keep w W) => kindOf_c (h.keep kk) hnl)
  generalize pathF s.T op false = PF at *
  obtain ⟨nd, er⟩ := PF
  simp only at hR HWC hnl HKC
  clear lim si h
  go_enter Try.func15, Try.ntmps15
  go_upto_region 1 with fail
  obtain ⟨w1, hw1⟩ : ∃ w1, w1 = (w.alloc (.cells (opC ⟨15, oh, ofl, omo, on, oo, owh, op, op2, od⟩).toArray 37)).alloc (.cells #[.int .i64 0, .int .i64 0, str [], .int .i64 0, .int .i64 0, .int .i64 0, .int .i64 0, .int .i64 0, .slice none 0 0] 34) := ⟨_, rfl⟩
  rw [← hw1]
  have TWO : Two w w1 ⟨15, oh, ofl, omo, on, oo, owh, op, op2, od⟩ := by rw [hw1]; exact Two.mk' w _
  obtain ⟨gA, hgA⟩ : ∃ g, g = w.heap.size := ⟨_, rfl⟩
  obtain ⟨gB, hgB⟩ : ∃ g, g = w.heap.size + 1 := ⟨_, rfl⟩
  have HGB : Hid (w.heap.size ≤ gB ∧ gB < w1.heap.size) := Hid.mk ⟨by omega, by rw [TWO.sz]; omega⟩
  have HAB : Hid (Arr w1 gB 34 zeroC) := Hid.mk (by rw [hgB]; exact TWO.b)
  have HAA : Hid (Arr w1 gA 37 (opC ⟨15, oh, ofl, omo, on, oo, owh, op, op2, od⟩)) := Hid.mk (by rw [hgA]; exact TWO.a)
  have K1 := TWO.k
  have HK1 := Hid.mk K1
  have HNF : Hid (¬ fpM fp gm ov gA ∧ ¬ fpM fp gm ov gB ∧ gA ≠ gB ∧ gm ≠ gB ∧ gm ≠ gA) := Hid.mk ⟨fun a => by have := HH.out.flt a; omega, fun a => by have := HH.out.flt a; omega, by omega, fun e => by have := HH.out.flt (Or.inr (Or.inl rfl) : fpM fp gm ov gm); omega, fun e => by have := HH.out.flt (Or.inr (Or.inl rfl) : fpM fp gm ov gm); omega⟩
  rw [← hgB, ← hgA]
  clear hw1 TWO hgA hgB
  have a0 := HAA.out.cell 0
  have a1 := HAA.out.cell 1
  have a2 := HAA.out.cell 2
  have a3 := HAA.out.cell 3
  have a4 := HAA.out.cell 4
  have a5 := HAA.out.cell 5
  have a6 := HAA.out.cell 6
  have a7 := HAA.out.cell 7
  have a8 := HAA.out.cell 8
  have a9 := HAA.out.cell 9
  simp only [opC, List.getElem?_cons_zero, List.getElem?_cons_succ] at a0 a1 a2 a3 a4 a5 a6 a7 a8 a9
  obtain ⟨x0, x1⟩ := (HH.out.keep K1).cells
  go_upto_region 51 with fail
  go_cut [10, 11] from 202 to 211 (fun va vb wx => va = .int .i64 (nd : Nat) ∧ vb = .int .i64 er ∧ Keep w1 wx)
  case first =>
    have HSK : Hid (∀ W : World, Keep w1 W → W.cell? ⟨gm, 0, none⟩ = some (.pointer (some ⟨gt, 0, none⟩)) ∧ W.cell? ⟨gA, 7, none⟩ = some (str op)) := Hid.mk (fun W kk => ⟨kk.cell x0, kk.cell a7⟩)
    go_region_held3 (fun W : World => W.cell? ⟨gm, 0, none⟩ = some (.pointer (some ⟨gt, 0, none⟩)) ∧ W.cell? ⟨gA, 7, none⟩ = some (str op))
      (with_reducible first | assumption | exact ⟨x0, a7⟩ | exact HSK.out _ (Keep.refl w1).drew | exact HSK.out _ Q2)
      ((go_at_call 63; refine (HWC.out _ (HK1.out.trans (Keep.refl w1).drew)).mono ?_; rintro x y ⟨rfl, q2⟩; have Q2 := (Keep.refl w1).drew.trans q2))
    go_wp2_with fail
    go_meet
    case rel => exact ⟨rfl, rfl, Q2⟩
  case rest =>
    obtain ⟨rfl, rfl, q3⟩ := hcut
    obtain ⟨y3, hy3⟩ : ∃ y3, y3 = wc := ⟨_, rfl⟩
    subst hy3
    have HQ3 := Hid.mk q3
    replace x0 := q3.cell x0
    replace x1 := q3.cell x1
    replace a3 := q3.cell a3
    clear q3 a0 a1 a2 a4 a5 a6 a7 a8 a9
    by_cases he : er = 0
    · rw [if_neg (by simpa using he)] at hR
      have n1' : (er != 0) = false := by simpa using he
      by_cases hk3 : (at' s.T nd).kind = 3
      · rw [if_neg (by simpa using hk3)] at hR
        have hSZ : (statF s.T nd).size = (at' s.T nd).data.length := by unfold statF; simp only; rw [if_neg (by omega)]
        rw [hSZ, readF_all] at hR
        have HV := Hid.mk hR
        rw [hk3] at HKC
        obtain ⟨bn, cap, c0, t1, t2, nodes⟩ := (HH.out.keep (HK1.out.trans HQ3.out)).tree.tr
        obtain ⟨dv, ev, -, -, -, -, -, m5, -, bs, -⟩ := nodes nd hnl
        have cv := run_conv bs
        obtain ⟨da, dc, hdv, hd1, hd2, -⟩ := bs.form
        subst hdv
        unfold maxLen at t2 hd2
        have i3 : (nd : Int) < s.T.length := by omega
        have i4 : (0 : Int) ≤ nd := by omega
        clear hR he hSZ nodes bs
        go_wp2_with fail
        refine (HKC.out _ (HK1.out.trans HQ3.out)).mono ?_
        rintro e y4 ⟨rfl, hy4⟩
        subst hy4
        generalize (at' s.T nd).data = DT at *
        obtain ⟨b0, b1, b2, b3, b4, b5, b6, b7, b8, z0, z1, z2, z3, z4, z5, z6, z7, z8⟩ := z9 (HAB.out.keep HQ3.out)
        have HE := Hid.mk (MP.fin (a := ⟨0, 0, DT, sta0, []⟩) (v := (.slice none 0 0)) HH.out HK1.out (HH.out.keep (HK1.out.trans HQ3.out)) (Stp.keep HQ3.out) HGB.out (OwnS.nil _ _ _ _ _) (fr9 (.int .i64 0) (.int .i64 0) (str DT) (.int .i64 0) (.int .i64 0) (.int .i64 0) (.int .i64 0) (.int .i64 0) (.slice none 0 0)))
        have HAZ := Hid.mk (arr9 (HAB.out.keep HQ3.out) (.int .i64 0) (.int .i64 0) (str DT) (.int .i64 0) (.int .i64 0) (.int .i64 0) (.int .i64 0) (.int .i64 0) (.slice none 0 0))
        go_wp2_with fail
        refine bodyPost_ret (v := .agg (ansC ⟨0, 0, DT, sta0, []⟩ (.slice none 0 0)).toArray) (results_cell_row1 rfl _ _ gB 34 _ (0, 0) _ rfl HAZ.out Try.underlying34 rfl s34) rfl ?_
        rw [HV.out]
        exact HE.out
      · rw [if_pos hk3] at hR
        have n3 : (((at' s.T nd).kind : Int) != 3) = true := by simp; omega
        have HV := Hid.mk hR
        clear hR he hk3
        go_wp2_with fail
        refine (HKC.out _ (HK1.out.trans HQ3.out)).mono ?_
        rintro e y4 ⟨rfl, hy4⟩
        subst hy4
        go_wp2_with fail
        refine (refuse_c 2 _).mono ?_
        rintro e y5 ⟨rfl, q2⟩
        obtain ⟨b0, b1, b2, b3, b4, b5, b6, b7, b8, z0, z1, z2, z3, z4, z5, z6, z7, z8⟩ := z9 (HAB.out.keep (HQ3.out.trans q2))
        have HE := Hid.mk (MP.fin (a := ⟨2, 0, [], sta0, []⟩) (v := (.slice none 0 0)) HH.out HK1.out (HH.out.keep (HK1.out.trans (HQ3.out.trans q2))) (Stp.keep (HQ3.out.trans q2)) HGB.out (OwnS.nil _ _ _ _ _) (fr9 (.int .i64 2) (.int .i64 0) (str []) (.int .i64 0) (.int .i64 0) (.int .i64 0) (.int .i64 0) (.int .i64 0) (.slice none 0 0)))
        have HAZ := Hid.mk (arr9 (HAB.out.keep (HQ3.out.trans q2)) (.int .i64 2) (.int .i64 0) (str []) (.int .i64 0) (.int .i64 0) (.int .i64 0) (.int .i64 0) (.int .i64 0) (.slice none 0 0))
        clear q2
        go_wp2_with fail
        refine bodyPost_ret (v := .agg (ansC ⟨2, 0, [], sta0, []⟩ (.slice none 0 0)).toArray) (results_cell_row1 rfl _ _ gB 34 _ (0, 0) _ rfl HAZ.out Try.underlying34 rfl s34) rfl ?_
        rw [HV.out]
        exact HE.out
    · rw [if_pos he] at hR
      have HV := Hid.mk hR
      have n1' : (er != 0) = true := by simpa using he
      clear hR he
      go_wp2_with fail
      refine (refuse_c er _).mono ?_
      rintro e y4 ⟨rfl, q2⟩
      obtain ⟨b0, b1, b2, b3, b4, b5, b6, b7, b8, z0, z1, z2, z3, z4, z5, z6, z7, z8⟩ := z9 (HAB.out.keep (HQ3.out.trans q2))
      have HE := Hid.mk (MP.fin (a := ⟨er, 0, [], sta0, []⟩) (v := (.slice none 0 0)) HH.out HK1.out (HH.out.keep (HK1.out.trans (HQ3.out.trans q2))) (Stp.keep (HQ3.out.trans q2)) HGB.out (OwnS.nil _ _ _ _ _) (fr9 (.int .i64 er) (.int .i64 0) (str []) (.int .i64 0) (.int .i64 0) (.int .i64 0) (.int .i64 0) (.int .i64 0) (.slice none 0 0)))
      have HAZ := Hid.mk (arr9 (HAB.out.keep (HQ3.out.trans q2)) (.int .i64 er) (.int .i64 0) (str []) (.int .i64 0) (.int .i64 0) (.int .i64 0) (.int .i64 0) (.int .i64 0) (.slice none 0 0))
      clear q2
      go_wp2_with fail
      refine bodyPost_ret (v := .agg (ansC ⟨er, 0, [], sta0, []⟩ (.slice none 0 0)).toArray) (results_cell_row1 rfl _ _ gB 34 _ (0, 0) _ rfl HAZ.out Try.underlying34 rfl s34) rfl ?_
      rw [HV.out]
      exact HE.out
end Go.Proofs.Qxb6500767a
