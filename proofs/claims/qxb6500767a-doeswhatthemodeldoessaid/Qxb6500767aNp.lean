/- unionvfsm: Play, the arms that hand the step on. -/
import Derived.Test.Qxb6500767aNi
import Derived.Test.Qxb6500767aNj
import Derived.Test.Qxb6500767aNk
import Derived.Test.Qxb6500767aNl
import Derived.Test.Qxb6500767aNm
import Derived.Test.Qxb6500767aNd
import Derived.Test.Qxb6500767aNo
namespace Go.Proofs.Qxb6500767a
open Go.RowKit Go.Qm
set_option linter.unusedVariables false
set_option linter.unusedSimpArgs false
attribute [local go_sem ↓] Go.wp_at_zero Go.wp_at_succ
theorem mOpenAll_c {B gm gt k : Nat} {fp : Nat → Prop} {w : World} {s : Stt} {O : List Nat} {ov : Value} (o : OpV) (h : MW B fp w gm gt s O ov) (si : SI k s.u s.hs s.T) (hk : k ≤ 70000) (hp : o.path.length ≤ 100000) (hp2 : o.path2.length ≤ 100000) (hdt : o.data.length ≤ 100000) (md : Md.SPM s.T) (hfr : -9223372036854775808 ≤ o.flags ∧ o.flags ≤ 9223372036854775807) (hmr : -9223372036854775808 ≤ o.mode ∧ o.mode ≤ 9223372036854775807) :
    Calls Try.prog 50 #[.pointer (some ⟨gm, 0, none⟩), .agg (opC o).toArray] w fun e w' => MP B fp w gm gt ov (opA s o) ⟨(opF s.u s.hs s.T o.path o.flags o.mode).1, (opF s.u s.hs s.T o.path o.flags o.mode).2.1, (opF s.u s.hs s.T o.path o.flags o.mode).2.2.1⟩ e w' := by
  by_cases hx : o.flags < 0 ∨ 127 < o.flags
  · have e : opF s.u s.hs s.T o.path o.flags o.mode = (s.u, s.hs, s.T, -1, 2) := op_chk (chk_out hx hfr.1 hfr.2)
    unfold opA
    rw [e, if_neg (show ¬ (2 : Int) = 0 by decide)]
    exact mOpenBad_c o h si hk hp hp2 hdt hx
  · exact mOpen_c o h si hk hp hp2 hdt md (by omega) (by omega) hmr
set_option maxRecDepth 8000 in
set_option maxHeartbeats 8000000 in
theorem mp1 {B gm gt k : Nat} {fp : Nat → Prop} {w : World} {s : Stt} {O : List Nat} {ov : Value} (o : OpV) (hK : o.kind = 1) (h : MW B fp w gm gt s O ov) (si : SI k s.u s.hs s.T) (hk : k ≤ 70000) (hp : o.path.length ≤ 100000) (hp2 : o.path2.length ≤ 100000) (hdt : o.data.length ≤ 100000) (fl : FL s.hs) (md : Md.SPM s.T) (hfr : -9223372036854775808 ≤ o.flags ∧ o.flags ≤ 9223372036854775807) (hmr : -9223372036854775808 ≤ o.mode ∧ o.mode ≤ 9223372036854775807) :
    Calls Try.prog 15 #[.pointer (some ⟨gm, 0, none⟩), .agg (opC o).toArray] w fun e w' => MP B fp w gm gt ov (opA s o) ⟨(opF s.u s.hs s.T o.path o.flags o.mode).1, (opF s.u s.hs s.T o.path o.flags o.mode).2.1, (opF s.u s.hs s.T o.path o.flags o.mode).2.2.1⟩ e w' := by
  have HH := Hid.mk h
  obtain ⟨ok, oh, ofl, omo, on, oo, owh, op, op2, od⟩ := o
  simp only at hK hp hp2 hdt hfr hmr ⊢
  subst hK
  obtain ⟨A, hA⟩ : ∃ A : AnsV, A = (opA s ⟨1, oh, ofl, omo, on, oo, owh, op, op2, od⟩) := ⟨_, rfl⟩
  obtain ⟨S, hS⟩ : ∃ S : Stt, S = ⟨(opF s.u s.hs s.T op ofl omo).1, (opF s.u s.hs s.T op ofl omo).2.1, (opF s.u s.hs s.T op ofl omo).2.2.1⟩ := ⟨_, rfl⟩
  have CC : Hid (∀ W, Keep w W → Calls Try.prog 50 #[.pointer (some ⟨gm, 0, none⟩), .agg #[.int .i64 1, .int .i64 oh, .int .i64 ofl, .int .i64 omo, .int .i64 on, .int .i64 oo, .int .i64 owh, str op, str op2, str od]] W fun e w' => MP B fp W gm gt ov A S e w') := Hid.mk (fun W kk => by rw [hA, hS]; exact mOpenAll_c ⟨1, oh, ofl, omo, on, oo, owh, op, op2, od⟩ (h.keep kk) si hk hp hp2 hdt md hfr hmr)
  rw [← hA, ← hS]
  skip
  clear hA hS fl md si
  obtain ⟨aE, aN, aD, ⟨sI, sK, sM, sL, sS⟩, aP⟩ := A
  go_enter Try.func15, Try.ntmps15
  go_upto_region 1 with fail
  obtain ⟨w1, hw1⟩ : ∃ w1, w1 = (w.alloc (.cells (opC ⟨1, oh, ofl, omo, on, oo, owh, op, op2, od⟩).toArray 37)).alloc (.cells #[.int .i64 0, .int .i64 0, str [], .int .i64 0, .int .i64 0, .int .i64 0, .int .i64 0, .int .i64 0, .slice none 0 0] 34) := ⟨_, rfl⟩
  rw [← hw1]
  have TWO : Two w w1 ⟨1, oh, ofl, omo, on, oo, owh, op, op2, od⟩ := by rw [hw1]; exact Two.mk' w _
  obtain ⟨gA, hgA⟩ : ∃ g, g = w.heap.size := ⟨_, rfl⟩
  obtain ⟨gB, hgB⟩ : ∃ g, g = w.heap.size + 1 := ⟨_, rfl⟩
  have HGB : Hid (w.heap.size ≤ gB ∧ gB < w1.heap.size) := Hid.mk ⟨by omega, by rw [TWO.sz]; omega⟩
  have HAB : Hid (Arr w1 gB 34 zeroC) := Hid.mk (by rw [hgB]; exact TWO.b)
  have HAA : Hid (Arr w1 gA 37 (opC ⟨1, oh, ofl, omo, on, oo, owh, op, op2, od⟩)) := Hid.mk (by rw [hgA]; exact TWO.a)
  have K1 := TWO.k
  have HK1 := Hid.mk K1
  have HNF : Hid (¬ fpM fp gm ov gA ∧ ¬ fpM fp gm ov gB ∧ gA ≠ gB ∧ gm ≠ gB ∧ gm ≠ gA) := Hid.mk ⟨fun a => by have := HH.out.flt a; omega, fun a => by have := HH.out.flt a; omega, by omega, fun e => by have := HH.out.flt (Or.inr (Or.inl rfl) : fpM fp gm ov gm); omega, fun e => by have := HH.out.flt (Or.inr (Or.inl rfl) : fpM fp gm ov gm); omega⟩
  rw [← hgB, ← hgA]
  clear hw1 TWO hgA hgB
  have a0 := HAA.out.cell 0
  have a1 := HAA.out.cell 1
  have a2 := HAA.out.cell 2
  have a3 := HAA.out.cell 3
  have a4 := HAA.out.cell 4
  have a5 := HAA.out.cell 5
  have a6 := HAA.out.cell 6
  have a7 := HAA.out.cell 7
  have a8 := HAA.out.cell 8
  have a9 := HAA.out.cell 9
  simp only [opC, List.getElem?_cons_zero, List.getElem?_cons_succ] at a0 a1 a2 a3 a4 a5 a6 a7 a8 a9
  obtain ⟨x0, x1⟩ := (HH.out.keep K1).cells
  go_wp2_with fail
  refine (CC.out _ K1).mono ?_
  rintro e y ⟨v, fp1, O1, ov1, rfl, dO, M1, s1⟩
  obtain ⟨pa, pc, rfl, -, -⟩ := dO.slice
  have HDO := Hid.mk dO
  have HM1 := Hid.mk M1
  have HS1 := Hid.mk s1
  have HAB1 := Hid.mk (s1.1.arr HNF.out.2.1 HAB.out)
  clear dO M1 s1
  simp only [ansC]
  obtain ⟨b0, b1, b2, b3, b4, b5, b6, b7, b8, z0, z1, z2, z3, z4, z5, z6, z7, z8⟩ := z9 HAB1.out
  have HE := Hid.mk (MP.fin (a := ⟨aE, aN, aD, ⟨sI, sK, sM, sL, sS⟩, aP⟩) (v := (.slice pa aP.length pc)) HH.out HK1.out HM1.out HS1.out HGB.out HDO.out (fr9 (.int .i64 aE) (.int .i64 aN) (str aD) (.int .i64 (sI : Nat)) (.int .i64 (sK : Nat)) (.int .i64 sM) (.int .i64 (sL : Nat)) (.int .i64 (sS : Nat)) (.slice pa aP.length pc)))
  have HAZ := Hid.mk (arr9 HAB1.out (.int .i64 aE) (.int .i64 aN) (str aD) (.int .i64 (sI : Nat)) (.int .i64 (sK : Nat)) (.int .i64 sM) (.int .i64 (sL : Nat)) (.int .i64 (sS : Nat)) (.slice pa aP.length pc))
  go_wp2_with fail
  refine bodyPost_ret (v := .agg (ansC ⟨aE, aN, aD, ⟨sI, sK, sM, sL, sS⟩, aP⟩ (.slice pa aP.length pc)).toArray) (results_cell_row1 rfl _ _ gB 34 _ (0, 0) _ rfl HAZ.out Try.underlying34 rfl s34) rfl ?_
  exact HE.out
set_option maxRecDepth 8000 in
set_option maxHeartbeats 8000000 in
theorem mp2 {B gm gt k : Nat} {fp : Nat → Prop} {w : World} {s : Stt} {O : List Nat} {ov : Value} (o : OpV) (hK : o.kind = 2) (h : MW B fp w gm gt s O ov) (si : SI k s.u s.hs s.T) (hk : k ≤ 70000) (hp : o.path.length ≤ 100000) (hp2 : o.path2.length ≤ 100000) (hdt : o.data.length ≤ 100000) (fl : FL s.hs) (md : Md.SPM s.T) (hfr : -9223372036854775808 ≤ o.flags ∧ o.flags ≤ 9223372036854775807) (hmr : -9223372036854775808 ≤ o.mode ∧ o.mode ≤ 9223372036854775807) :
    Calls Try.prog 15 #[.pointer (some ⟨gm, 0, none⟩), .agg (opC o).toArray] w fun e w' => MP B fp w gm gt ov ⟨(clsF s.u s.hs s.T o.h).2.2.2, 0, [], sta0, []⟩ ⟨(clsF s.u s.hs s.T o.h).1, (clsF s.u s.hs s.T o.h).2.1, (clsF s.u s.hs s.T o.h).2.2.1⟩ e w' := by
  have HH := Hid.mk h
  obtain ⟨ok, oh, ofl, omo, on, oo, owh, op, op2, od⟩ := o
  simp only at hK hp hp2 hdt hfr hmr ⊢
  subst hK
  obtain ⟨A, hA⟩ : ∃ A : AnsV, A = ⟨(clsF s.u s.hs s.T oh).2.2.2, 0, [], sta0, []⟩ := ⟨_, rfl⟩
  obtain ⟨S, hS⟩ : ∃ S : Stt, S = ⟨(clsF s.u s.hs s.T oh).1, (clsF s.u s.hs s.T oh).2.1, (clsF s.u s.hs s.T oh).2.2.1⟩ := ⟨_, rfl⟩
  have CC : Hid (∀ W, Keep w W → Calls Try.prog 51 #[.pointer (some ⟨gm, 0, none⟩), .agg #[.int .i64 2, .int .i64 oh, .int .i64 ofl, .int .i64 omo, .int .i64 on, .int .i64 oo, .int .i64 owh, str op, str op2, str od]] W fun e w' => MP B fp W gm gt ov A S e w') := Hid.mk (fun W kk => by rw [hA, hS]; exact mClose_c ⟨2, oh, ofl, omo, on, oo, owh, op, op2, od⟩ (h.keep kk) si hk hp hp2 hdt fl)
  rw [← hA, ← hS]
  skip
  clear hA hS fl md si
  obtain ⟨aE, aN, aD, ⟨sI, sK, sM, sL, sS⟩, aP⟩ := A
  go_enter Try.func15, Try.ntmps15
  go_upto_region 1 with fail
  obtain ⟨w1, hw1⟩ : ∃ w1, w1 = (w.alloc (.cells (opC ⟨2, oh, ofl, omo, on, oo, owh, op, op2, od⟩).toArray 37)).alloc (.cells #[.int .i64 0, .int .i64 0, str [], .int .i64 0, .int .i64 0, .int .i64 0, .int .i64 0, .int .i64 0, .slice none 0 0] 34) := ⟨_, rfl⟩
  rw [← hw1]
  have TWO : Two w w1 ⟨2, oh, ofl, omo, on, oo, owh, op, op2, od⟩ := by rw [hw1]; exact Two.mk' w _
  obtain ⟨gA, hgA⟩ : ∃ g, g = w.heap.size := ⟨_, rfl⟩
  obtain ⟨gB, hgB⟩ : ∃ g, g = w.heap.size + 1 := ⟨_, rfl⟩
  have HGB : Hid (w.heap.size ≤ gB ∧ gB < w1.heap.size) := Hid.mk ⟨by omega, by rw [TWO.sz]; omega⟩
  have HAB : Hid (Arr w1 gB 34 zeroC) := Hid.mk (by rw [hgB]; exact TWO.b)
  have HAA : Hid (Arr w1 gA 37 (opC ⟨2, oh, ofl, omo, on, oo, owh, op, op2, od⟩)) := Hid.mk (by rw [hgA]; exact TWO.a)
  have K1 := TWO.k
  have HK1 := Hid.mk K1
  have HNF : Hid (¬ fpM fp gm ov gA ∧ ¬ fpM fp gm ov gB ∧ gA ≠ gB ∧ gm ≠ gB ∧ gm ≠ gA) := Hid.mk ⟨fun a => by have := HH.out.flt a; omega, fun a => by have := HH.out.flt a; omega, by omega, fun e => by have := HH.out.flt (Or.inr (Or.inl rfl) : fpM fp gm ov gm); omega, fun e => by have := HH.out.flt (Or.inr (Or.inl rfl) : fpM fp gm ov gm); omega⟩
  rw [← hgB, ← hgA]
  clear hw1 TWO hgA hgB
  have a0 := HAA.out.cell 0
  have a1 := HAA.out.cell 1
  have a2 := HAA.out.cell 2
  have a3 := HAA.out.cell 3
  have a4 := HAA.out.cell 4
  have a5 := HAA.out.cell 5
  have a6 := HAA.out.cell 6
  have a7 := HAA.out.cell 7
  have a8 := HAA.out.cell 8
  have a9 := HAA.out.cell 9
  simp only [opC, List.getElem?_cons_zero, List.getElem?_cons_succ] at a0 a1 a2 a3 a4 a5 a6 a7 a8 a9
  obtain ⟨x0, x1⟩ := (HH.out.keep K1).cells
  go_wp2_with fail
  refine (CC.out _ K1).mono ?_
  rintro e y ⟨v, fp1, O1, ov1, rfl, dO, M1, s1⟩
  obtain ⟨pa, pc, rfl, -, -⟩ := dO.slice
  have HDO := Hid.mk dO
  have HM1 := Hid.mk M1
  have HS1 := Hid.mk s1
  have HAB1 := Hid.mk (s1.1.arr HNF.out.2.1 HAB.out)
  clear dO M1 s1
  simp only [ansC]
  obtain ⟨b0, b1, b2, b3, b4, b5, b6, b7, b8, z0, z1, z2, z3, z4, z5, z6, z7, z8⟩ := z9 HAB1.out
  have HE := Hid.mk (MP.fin (a := ⟨aE, aN, aD, ⟨sI, sK, sM, sL, sS⟩, aP⟩) (v := (.slice pa aP.length pc)) HH.out HK1.out HM1.out HS1.out HGB.out HDO.out (fr9 (.int .i64 aE) (.int .i64 aN) (str aD) (.int .i64 (sI : Nat)) (.int .i64 (sK : Nat)) (.int .i64 sM) (.int .i64 (sL : Nat)) (.int .i64 (sS : Nat)) (.slice pa aP.length pc)))
  have HAZ := Hid.mk (arr9 HAB1.out (.int .i64 aE) (.int .i64 aN) (str aD) (.int .i64 (sI : Nat)) (.int .i64 (sK : Nat)) (.int .i64 sM) (.int .i64 (sL : Nat)) (.int .i64 (sS : Nat)) (.slice pa aP.length pc))
  go_wp2_with fail
  refine bodyPost_ret (v := .agg (ansC ⟨aE, aN, aD, ⟨sI, sK, sM, sL, sS⟩, aP⟩ (.slice pa aP.length pc)).toArray) (results_cell_row1 rfl _ _ gB 34 _ (0, 0) _ rfl HAZ.out Try.underlying34 rfl s34) rfl ?_
  exact HE.out
set_option maxRecDepth 8000 in
set_option maxHeartbeats 8000000 in
theorem mp3 {B gm gt k : Nat} {fp : Nat → Prop} {w : World} {s : Stt} {O : List Nat} {ov : Value} (o : OpV) (hK : o.kind = 3) (h : MW B fp w gm gt s O ov) (si : SI k s.u s.hs s.T) (hk : k ≤ 70000) (hp : o.path.length ≤ 100000) (hp2 : o.path2.length ≤ 100000) (hdt : o.data.length ≤ 100000) (fl : FL s.hs) (md : Md.SPM s.T) (hfr : -9223372036854775808 ≤ o.flags ∧ o.flags ≤ 9223372036854775807) (hmr : -9223372036854775808 ≤ o.mode ∧ o.mode ≤ 9223372036854775807) :
    Calls Try.prog 15 #[.pointer (some ⟨gm, 0, none⟩), .agg (opC o).toArray] w fun e w' => MP B fp w gm gt ov ⟨(rdF s.u s.hs s.T o.h o.n).2.2, ((rdF s.u s.hs s.T o.h o.n).2.1.length : Nat), (rdF s.u s.hs s.T o.h o.n).2.1, sta0, []⟩ ⟨s.u, (rdF s.u s.hs s.T o.h o.n).1, s.T⟩ e w' := by
  have HH := Hid.mk h
  obtain ⟨ok, oh, ofl, omo, on, oo, owh, op, op2, od⟩ := o
  simp only at hK hp hp2 hdt hfr hmr ⊢
  subst hK
  obtain ⟨A, hA⟩ : ∃ A : AnsV, A = ⟨(rdF s.u s.hs s.T oh on).2.2, ((rdF s.u s.hs s.T oh on).2.1.length : Nat), (rdF s.u s.hs s.T oh on).2.1, sta0, []⟩ := ⟨_, rfl⟩
  obtain ⟨S, hS⟩ : ∃ S : Stt, S = ⟨s.u, (rdF s.u s.hs s.T oh on).1, s.T⟩ := ⟨_, rfl⟩
  have CC : Hid (∀ W, Keep w W → Calls Try.prog 52 #[.pointer (some ⟨gm, 0, none⟩), .agg #[.int .i64 3, .int .i64 oh, .int .i64 ofl, .int .i64 omo, .int .i64 on, .int .i64 oo, .int .i64 owh, str op, str op2, str od], .int .i64 0, .bool true] W fun e w' => MP B fp W gm gt ov A S e w') := Hid.mk (fun W kk => by rw [hA, hS]; exact mRead_c ⟨3, oh, ofl, omo, on, oo, owh, op, op2, od⟩ (h.keep kk) si hk hp hp2 hdt fl)
  rw [← hA, ← hS]
  skip
  clear hA hS fl md si
  obtain ⟨aE, aN, aD, ⟨sI, sK, sM, sL, sS⟩, aP⟩ := A
  go_enter Try.func15, Try.ntmps15
  go_upto_region 1 with fail
  obtain ⟨w1, hw1⟩ : ∃ w1, w1 = (w.alloc (.cells (opC ⟨3, oh, ofl, omo, on, oo, owh, op, op2, od⟩).toArray 37)).alloc (.cells #[.int .i64 0, .int .i64 0, str [], .int .i64 0, .int .i64 0, .int .i64 0, .int .i64 0, .int .i64 0, .slice none 0 0] 34) := ⟨_, rfl⟩
  rw [← hw1]
  have TWO : Two w w1 ⟨3, oh, ofl, omo, on, oo, owh, op, op2, od⟩ := by rw [hw1]; exact Two.mk' w _
  obtain ⟨gA, hgA⟩ : ∃ g, g = w.heap.size := ⟨_, rfl⟩
  obtain ⟨gB, hgB⟩ : ∃ g, g = w.heap.size + 1 := ⟨_, rfl⟩
  have HGB : Hid (w.heap.size ≤ gB ∧ gB < w1.heap.size) := Hid.mk ⟨by omega, by rw [TWO.sz]; omega⟩
  have HAB : Hid (Arr w1 gB 34 zeroC) := Hid.mk (by rw [hgB]; exact TWO.b)
  have HAA : Hid (Arr w1 gA 37 (opC ⟨3, oh, ofl, omo, on, oo, owh, op, op2, od⟩)) := Hid.mk (by rw [hgA]; exact TWO.a)
  have K1 := TWO.k
  have HK1 := Hid.mk K1
  have HNF : Hid (¬ fpM fp gm ov gA ∧ ¬ fpM fp gm ov gB ∧ gA ≠ gB ∧ gm ≠ gB ∧ gm ≠ gA) := Hid.mk ⟨fun a => by have := HH.out.flt a; omega, fun a => by have := HH.out.flt a; omega, by omega, fun e => by have := HH.out.flt (Or.inr (Or.inl rfl) : fpM fp gm ov gm); omega, fun e => by have := HH.out.flt (Or.inr (Or.inl rfl) : fpM fp gm ov gm); omega⟩
  rw [← hgB, ← hgA]
  clear hw1 TWO hgA hgB
  have a0 := HAA.out.cell 0
  have a1 := HAA.out.cell 1
  have a2 := HAA.out.cell 2
  have a3 := HAA.out.cell 3
  have a4 := HAA.out.cell 4
  have a5 := HAA.out.cell 5
  have a6 := HAA.out.cell 6
  have a7 := HAA.out.cell 7
  have a8 := HAA.out.cell 8
  have a9 := HAA.out.cell 9
  simp only [opC, List.getElem?_cons_zero, List.getElem?_cons_succ] at a0 a1 a2 a3 a4 a5 a6 a7 a8 a9
  obtain ⟨x0, x1⟩ := (HH.out.keep K1).cells
  go_wp2_with fail
  refine (CC.out _ K1).mono ?_
  rintro e y ⟨v, fp1, O1, ov1, rfl, dO, M1, s1⟩
  obtain ⟨pa, pc, rfl, -, -⟩ := dO.slice
  have HDO := Hid.mk dO
  have HM1 := Hid.mk M1
  have HS1 := Hid.mk s1
  have HAB1 := Hid.mk (s1.1.arr HNF.out.2.1 HAB.out)
  clear dO M1 s1
  simp only [ansC]
  obtain ⟨b0, b1, b2, b3, b4, b5, b6, b7, b8, z0, z1, z2, z3, z4, z5, z6, z7, z8⟩ := z9 HAB1.out
  have HE := Hid.mk (MP.fin (a := ⟨aE, aN, aD, ⟨sI, sK, sM, sL, sS⟩, aP⟩) (v := (.slice pa aP.length pc)) HH.out HK1.out HM1.out HS1.out HGB.out HDO.out (fr9 (.int .i64 aE) (.int .i64 aN) (str aD) (.int .i64 (sI : Nat)) (.int .i64 (sK : Nat)) (.int .i64 sM) (.int .i64 (sL : Nat)) (.int .i64 (sS : Nat)) (.slice pa aP.length pc)))
  have HAZ := Hid.mk (arr9 HAB1.out (.int .i64 aE) (.int .i64 aN) (str aD) (.int .i64 (sI : Nat)) (.int .i64 (sK : Nat)) (.int .i64 sM) (.int .i64 (sL : Nat)) (.int .i64 (sS : Nat)) (.slice pa aP.length pc))
  go_wp2_with fail
  refine bodyPost_ret (v := .agg (ansC ⟨aE, aN, aD, ⟨sI, sK, sM, sL, sS⟩, aP⟩ (.slice pa aP.length pc)).toArray) (results_cell_row1 rfl _ _ gB 34 _ (0, 0) _ rfl HAZ.out Try.underlying34 rfl s34) rfl ?_
  exact HE.out
set_option maxRecDepth 8000 in
set_option maxHeartbeats 8000000 in
theorem mp4 {B gm gt k : Nat} {fp : Nat → Prop} {w : World} {s : Stt} {O : List Nat} {ov : Value} (o : OpV) (hK : o.kind = 4) (h : MW B fp w gm gt s O ov) (si : SI k s.u s.hs s.T) (hk : k ≤ 70000) (hp : o.path.length ≤ 100000) (hp2 : o.path2.length ≤ 100000) (hdt : o.data.length ≤ 100000) (fl : FL s.hs) (md : Md.SPM s.T) (hfr : -9223372036854775808 ≤ o.flags ∧ o.flags ≤ 9223372036854775807) (hmr : -9223372036854775808 ≤ o.mode ∧ o.mode ≤ 9223372036854775807) :
    Calls Try.prog 15 #[.pointer (some ⟨gm, 0, none⟩), .agg (opC o).toArray] w fun e w' => MP B fp w gm gt ov ⟨(rdaF s.u s.hs s.T o.h o.off o.n).2, ((rdaF s.u s.hs s.T o.h o.off o.n).1.length : Nat), (rdaF s.u s.hs s.T o.h o.off o.n).1, sta0, []⟩ s e w' := by
  have HH := Hid.mk h
  obtain ⟨ok, oh, ofl, omo, on, oo, owh, op, op2, od⟩ := o
  simp only at hK hp hp2 hdt hfr hmr ⊢
  subst hK
  obtain ⟨A, hA⟩ : ∃ A : AnsV, A = ⟨(rdaF s.u s.hs s.T oh oo on).2, ((rdaF s.u s.hs s.T oh oo on).1.length : Nat), (rdaF s.u s.hs s.T oh oo on).1, sta0, []⟩ := ⟨_, rfl⟩
  obtain ⟨S, hS⟩ : ∃ S : Stt, S = s := ⟨_, rfl⟩
  have CC : Hid (∀ W, Keep w W → Calls Try.prog 52 #[.pointer (some ⟨gm, 0, none⟩), .agg #[.int .i64 4, .int .i64 oh, .int .i64 ofl, .int .i64 omo, .int .i64 on, .int .i64 oo, .int .i64 owh, str op, str op2, str od], .int .i64 oo, .bool false] W fun e w' => MP B fp W gm gt ov A S e w') := Hid.mk (fun W kk => by rw [hA, hS]; exact mReadAt_c ⟨4, oh, ofl, omo, on, oo, owh, op, op2, od⟩ (h.keep kk) si hk hp hp2 hdt fl)
  rw [← hA]
  subst hS
  clear hA  fl md si
  obtain ⟨aE, aN, aD, ⟨sI, sK, sM, sL, sS⟩, aP⟩ := A
  go_enter Try.func15, Try.ntmps15
  go_upto_region 1 with fail
  obtain ⟨w1, hw1⟩ : ∃ w1, w1 = (w.alloc (.cells (opC ⟨4, oh, ofl, omo, on, oo, owh, op, op2, od⟩).toArray 37)).alloc (.cells #[.int .i64 0, .int .i64 0, str [], .int .i64 0, .int .i64 0, .int .i64 0, .int .i64 0, .int .i64 0, .slice none 0 0] 34) := ⟨_, rfl⟩
  rw [← hw1]
  have TWO : Two w w1 ⟨4, oh, ofl, omo, on, oo, owh, op, op2, od⟩ := by rw [hw1]; exact Two.mk' w _
  obtain ⟨gA, hgA⟩ : ∃ g, g = w.heap.size := ⟨_, rfl⟩
  obtain ⟨gB, hgB⟩ : ∃ g, g = w.heap.size + 1 := ⟨_, rfl⟩
  have HGB : Hid (w.heap.size ≤ gB ∧ gB < w1.heap.size) := Hid.mk ⟨by omega, by rw [TWO.sz]; omega⟩
  have HAB : Hid (Arr w1 gB 34 zeroC) := Hid.mk (by rw [hgB]; exact TWO.b)
  have HAA : Hid (Arr w1 gA 37 (opC ⟨4, oh, ofl, omo, on, oo, owh, op, op2, od⟩)) := Hid.mk (by rw [hgA]; exact TWO.a)
  have K1 := TWO.k
  have HK1 := Hid.mk K1
  have HNF : Hid (¬ fpM fp gm ov gA ∧ ¬ fpM fp gm ov gB ∧ gA ≠ gB ∧ gm ≠ gB ∧ gm ≠ gA) := Hid.mk ⟨fun a => by have := HH.out.flt a; omega, fun a => by have := HH.out.flt a; omega, by omega, fun e => by have := HH.out.flt (Or.inr (Or.inl rfl) : fpM fp gm ov gm); omega, fun e => by have := HH.out.flt (Or.inr (Or.inl rfl) : fpM fp gm ov gm); omega⟩
  rw [← hgB, ← hgA]
  clear hw1 TWO hgA hgB
  have a0 := HAA.out.cell 0
  have a1 := HAA.out.cell 1
  have a2 := HAA.out.cell 2
  have a3 := HAA.out.cell 3
  have a4 := HAA.out.cell 4
  have a5 := HAA.out.cell 5
  have a6 := HAA.out.cell 6
  have a7 := HAA.out.cell 7
  have a8 := HAA.out.cell 8
  have a9 := HAA.out.cell 9
  simp only [opC, List.getElem?_cons_zero, List.getElem?_cons_succ] at a0 a1 a2 a3 a4 a5 a6 a7 a8 a9
  obtain ⟨x0, x1⟩ := (HH.out.keep K1).cells
  go_wp2_with fail
  refine (CC.out _ K1).mono ?_
  rintro e y ⟨v, fp1, O1, ov1, rfl, dO, M1, s1⟩
  obtain ⟨pa, pc, rfl, -, -⟩ := dO.slice
  have HDO := Hid.mk dO
  have HM1 := Hid.mk M1
  have HS1 := Hid.mk s1
  have HAB1 := Hid.mk (s1.1.arr HNF.out.2.1 HAB.out)
  clear dO M1 s1
  simp only [ansC]
  obtain ⟨b0, b1, b2, b3, b4, b5, b6, b7, b8, z0, z1, z2, z3, z4, z5, z6, z7, z8⟩ := z9 HAB1.out
  have HE := Hid.mk (MP.fin (a := ⟨aE, aN, aD, ⟨sI, sK, sM, sL, sS⟩, aP⟩) (v := (.slice pa aP.length pc)) HH.out HK1.out HM1.out HS1.out HGB.out HDO.out (fr9 (.int .i64 aE) (.int .i64 aN) (str aD) (.int .i64 (sI : Nat)) (.int .i64 (sK : Nat)) (.int .i64 sM) (.int .i64 (sL : Nat)) (.int .i64 (sS : Nat)) (.slice pa aP.length pc)))
  have HAZ := Hid.mk (arr9 HAB1.out (.int .i64 aE) (.int .i64 aN) (str aD) (.int .i64 (sI : Nat)) (.int .i64 (sK : Nat)) (.int .i64 sM) (.int .i64 (sL : Nat)) (.int .i64 (sS : Nat)) (.slice pa aP.length pc))
  go_wp2_with fail
  refine bodyPost_ret (v := .agg (ansC ⟨aE, aN, aD, ⟨sI, sK, sM, sL, sS⟩, aP⟩ (.slice pa aP.length pc)).toArray) (results_cell_row1 rfl _ _ gB 34 _ (0, 0) _ rfl HAZ.out Try.underlying34 rfl s34) rfl ?_
  exact HE.out
set_option maxRecDepth 8000 in
set_option maxHeartbeats 8000000 in
theorem mp5 {B gm gt k : Nat} {fp : Nat → Prop} {w : World} {s : Stt} {O : List Nat} {ov : Value} (o : OpV) (hK : o.kind = 5) (h : MW B fp w gm gt s O ov) (si : SI k s.u s.hs s.T) (hk : k ≤ 70000) (hp : o.path.length ≤ 100000) (hp2 : o.path2.length ≤ 100000) (hdt : o.data.length ≤ 100000) (fl : FL s.hs) (md : Md.SPM s.T) (hfr : -9223372036854775808 ≤ o.flags ∧ o.flags ≤ 9223372036854775807) (hmr : -9223372036854775808 ≤ o.mode ∧ o.mode ≤ 9223372036854775807) :
    Calls Try.prog 15 #[.pointer (some ⟨gm, 0, none⟩), .agg (opC o).toArray] w fun e w' => MP B fp w gm gt ov ⟨(wrF s.u s.hs s.T o.h o.data).2.2.2, (wrF s.u s.hs s.T o.h o.data).2.2.1, [], sta0, []⟩ ⟨s.u, (wrF s.u s.hs s.T o.h o.data).1, (wrF s.u s.hs s.T o.h o.data).2.1⟩ e w' := by
  have HH := Hid.mk h
  obtain ⟨ok, oh, ofl, omo, on, oo, owh, op, op2, od⟩ := o
  simp only at hK hp hp2 hdt hfr hmr ⊢
  subst hK
  obtain ⟨A, hA⟩ : ∃ A : AnsV, A = ⟨(wrF s.u s.hs s.T oh od).2.2.2, (wrF s.u s.hs s.T oh od).2.2.1, [], sta0, []⟩ := ⟨_, rfl⟩
  obtain ⟨S, hS⟩ : ∃ S : Stt, S = ⟨s.u, (wrF s.u s.hs s.T oh od).1, (wrF s.u s.hs s.T oh od).2.1⟩ := ⟨_, rfl⟩
  have CC : Hid (∀ W, Keep w W → Calls Try.prog 53 #[.pointer (some ⟨gm, 0, none⟩), .agg #[.int .i64 5, .int .i64 oh, .int .i64 ofl, .int .i64 omo, .int .i64 on, .int .i64 oo, .int .i64 owh, str op, str op2, str od]] W fun e w' => MP B fp W gm gt ov A S e w') := Hid.mk (fun W kk => by rw [hA, hS]; exact mWrite_c ⟨5, oh, ofl, omo, on, oo, owh, op, op2, od⟩ (h.keep kk) si hk hp hp2 hdt fl)
  rw [← hA, ← hS]
  skip
  clear hA hS fl md si
  obtain ⟨aE, aN, aD, ⟨sI, sK, sM, sL, sS⟩, aP⟩ := A
  go_enter Try.func15, Try.ntmps15
  go_upto_region 1 with fail
  obtain ⟨w1, hw1⟩ : ∃ w1, w1 = (w.alloc (.cells (opC ⟨5, oh, ofl, omo, on, oo, owh, op, op2, od⟩).toArray 37)).alloc (.cells #[.int .i64 0, .int .i64 0, str [], .int .i64 0, .int .i64 0, .int .i64 0, .int .i64 0, .int .i64 0, .slice none 0 0] 34) := ⟨_, rfl⟩
  rw [← hw1]
  have TWO : Two w w1 ⟨5, oh, ofl, omo, on, oo, owh, op, op2, od⟩ := by rw [hw1]; exact Two.mk' w _
  obtain ⟨gA, hgA⟩ : ∃ g, g = w.heap.size := ⟨_, rfl⟩
  obtain ⟨gB, hgB⟩ : ∃ g, g = w.heap.size + 1 := ⟨_, rfl⟩
  have HGB : Hid (w.heap.size ≤ gB ∧ gB < w1.heap.size) := Hid.mk ⟨by omega, by rw [TWO.sz]; omega⟩
  have HAB : Hid (Arr w1 gB 34 zeroC) := Hid.mk (by rw [hgB]; exact TWO.b)
  have HAA : Hid (Arr w1 gA 37 (opC ⟨5, oh, ofl, omo, on, oo, owh, op, op2, od⟩)) := Hid.mk (by rw [hgA]; exact TWO.a)
  have K1 := TWO.k
  have HK1 := Hid.mk K1
  have HNF : Hid (¬ fpM fp gm ov gA ∧ ¬ fpM fp gm ov gB ∧ gA ≠ gB ∧ gm ≠ gB ∧ gm ≠ gA) := Hid.mk ⟨fun a => by have := HH.out.flt a; omega, fun a => by have := HH.out.flt a; omega, by omega, fun e => by have := HH.out.flt (Or.inr (Or.inl rfl) : fpM fp gm ov gm); omega, fun e => by have := HH.out.flt (Or.inr (Or.inl rfl) : fpM fp gm ov gm); omega⟩
  rw [← hgB, ← hgA]
  clear hw1 TWO hgA hgB
  have a0 := HAA.out.cell 0
  have a1 := HAA.out.cell 1
  have a2 := HAA.out.cell 2
  have a3 := HAA.out.cell 3
  have a4 := HAA.out.cell 4
  have a5 := HAA.out.cell 5
  have a6 := HAA.out.cell 6
  have a7 := HAA.out.cell 7
  have a8 := HAA.out.cell 8
  have a9 := HAA.out.cell 9
  simp only [opC, List.getElem?_cons_zero, List.getElem?_cons_succ] at a0 a1 a2 a3 a4 a5 a6 a7 a8 a9
  obtain ⟨x0, x1⟩ := (HH.out.keep K1).cells
  go_wp2_with fail
  refine (CC.out _ K1).mono ?_
  rintro e y ⟨v, fp1, O1, ov1, rfl, dO, M1, s1⟩
  obtain ⟨pa, pc, rfl, -, -⟩ := dO.slice
  have HDO := Hid.mk dO
  have HM1 := Hid.mk M1
  have HS1 := Hid.mk s1
  have HAB1 := Hid.mk (s1.1.arr HNF.out.2.1 HAB.out)
  clear dO M1 s1
  simp only [ansC]
  obtain ⟨b0, b1, b2, b3, b4, b5, b6, b7, b8, z0, z1, z2, z3, z4, z5, z6, z7, z8⟩ := z9 HAB1.out
  have HE := Hid.mk (MP.fin (a := ⟨aE, aN, aD, ⟨sI, sK, sM, sL, sS⟩, aP⟩) (v := (.slice pa aP.length pc)) HH.out HK1.out HM1.out HS1.out HGB.out HDO.out (fr9 (.int .i64 aE) (.int .i64 aN) (str aD) (.int .i64 (sI : Nat)) (.int .i64 (sK : Nat)) (.int .i64 sM) (.int .i64 (sL : Nat)) (.int .i64 (sS : Nat)) (.slice pa aP.length pc)))
  have HAZ := Hid.mk (arr9 HAB1.out (.int .i64 aE) (.int .i64 aN) (str aD) (.int .i64 (sI : Nat)) (.int .i64 (sK : Nat)) (.int .i64 sM) (.int .i64 (sL : Nat)) (.int .i64 (sS : Nat)) (.slice pa aP.length pc))
  go_wp2_with fail
  refine bodyPost_ret (v := .agg (ansC ⟨aE, aN, aD, ⟨sI, sK, sM, sL, sS⟩, aP⟩ (.slice pa aP.length pc)).toArray) (results_cell_row1 rfl _ _ gB 34 _ (0, 0) _ rfl HAZ.out Try.underlying34 rfl s34) rfl ?_
  exact HE.out
set_option maxRecDepth 8000 in
set_option maxHeartbeats 8000000 in
theorem mp6 {B gm gt k : Nat} {fp : Nat → Prop} {w : World} {s : Stt} {O : List Nat} {ov : Value} (o : OpV) (hK : o.kind = 6) (h : MW B fp w gm gt s O ov) (si : SI k s.u s.hs s.T) (hk : k ≤ 70000) (hp : o.path.length ≤ 100000) (hp2 : o.path2.length ≤ 100000) (hdt : o.data.length ≤ 100000) (fl : FL s.hs) (md : Md.SPM s.T) (hfr : -9223372036854775808 ≤ o.flags ∧ o.flags ≤ 9223372036854775807) (hmr : -9223372036854775808 ≤ o.mode ∧ o.mode ≤ 9223372036854775807) :
    Calls Try.prog 15 #[.pointer (some ⟨gm, 0, none⟩), .agg (opC o).toArray] w fun e w' => MP B fp w gm gt ov ⟨(skF s.u s.hs s.T o.h o.off o.wh).2.2, (skF s.u s.hs s.T o.h o.off o.wh).2.1, [], sta0, []⟩ ⟨s.u, (skF s.u s.hs s.T o.h o.off o.wh).1, s.T⟩ e w' := by
  have HH := Hid.mk h
  obtain ⟨ok, oh, ofl, omo, on, oo, owh, op, op2, od⟩ := o
  simp only at hK hp hp2 hdt hfr hmr ⊢
  subst hK
  obtain ⟨A, hA⟩ : ∃ A : AnsV, A = ⟨(skF s.u s.hs s.T oh oo owh).2.2, (skF s.u s.hs s.T oh oo owh).2.1, [], sta0, []⟩ := ⟨_, rfl⟩
  obtain ⟨S, hS⟩ : ∃ S : Stt, S = ⟨s.u, (skF s.u s.hs s.T oh oo owh).1, s.T⟩ := ⟨_, rfl⟩
  have CC : Hid (∀ W, Keep w W → Calls Try.prog 54 #[.pointer (some ⟨gm, 0, none⟩), .agg #[.int .i64 6, .int .i64 oh, .int .i64 ofl, .int .i64 omo, .int .i64 on, .int .i64 oo, .int .i64 owh, str op, str op2, str od]] W fun e w' => MP B fp W gm gt ov A S e w') := Hid.mk (fun W kk => by rw [hA, hS]; exact mSeek_c ⟨6, oh, ofl, omo, on, oo, owh, op, op2, od⟩ (h.keep kk) si hk hp hp2 hdt fl)
  rw [← hA, ← hS]
  skip
  clear hA hS fl md si
  obtain ⟨aE, aN, aD, ⟨sI, sK, sM, sL, sS⟩, aP⟩ := A
  go_enter Try.func15, Try.ntmps15
  go_upto_region 1 with fail
  obtain ⟨w1, hw1⟩ : ∃ w1, w1 = (w.alloc (.cells (opC ⟨6, oh, ofl, omo, on, oo, owh, op, op2, od⟩).toArray 37)).alloc (.cells #[.int .i64 0, .int .i64 0, str [], .int .i64 0, .int .i64 0, .int .i64 0, .int .i64 0, .int .i64 0, .slice none 0 0] 34) := ⟨_, rfl⟩
  rw [← hw1]
  have TWO : Two w w1 ⟨6, oh, ofl, omo, on, oo, owh, op, op2, od⟩ := by rw [hw1]; exact Two.mk' w _
  obtain ⟨gA, hgA⟩ : ∃ g, g = w.heap.size := ⟨_, rfl⟩
  obtain ⟨gB, hgB⟩ : ∃ g, g = w.heap.size + 1 := ⟨_, rfl⟩
  have HGB : Hid (w.heap.size ≤ gB ∧ gB < w1.heap.size) := Hid.mk ⟨by omega, by rw [TWO.sz]; omega⟩
  have HAB : Hid (Arr w1 gB 34 zeroC) := Hid.mk (by rw [hgB]; exact TWO.b)
  have HAA : Hid (Arr w1 gA 37 (opC ⟨6, oh, ofl, omo, on, oo, owh, op, op2, od⟩)) := Hid.mk (by rw [hgA]; exact TWO.a)
  have K1 := TWO.k
  have HK1 := Hid.mk K1
  have HNF : Hid (¬ fpM fp gm ov gA ∧ ¬ fpM fp gm ov gB ∧ gA ≠ gB ∧ gm ≠ gB ∧ gm ≠ gA) := Hid.mk ⟨fun a => by have := HH.out.flt a; omega, fun a => by have := HH.out.flt a; omega, by omega, fun e => by have := HH.out.flt (Or.inr (Or.inl rfl) : fpM fp gm ov gm); omega, fun e => by have := HH.out.flt (Or.inr (Or.inl rfl) : fpM fp gm ov gm); omega⟩
  rw [← hgB, ← hgA]
  clear hw1 TWO hgA hgB
  have a0 := HAA.out.cell 0
  have a1 := HAA.out.cell 1
  have a2 := HAA.out.cell 2
  have a3 := HAA.out.cell 3
  have a4 := HAA.out.cell 4
  have a5 := HAA.out.cell 5
  have a6 := HAA.out.cell 6
  have a7 := HAA.out.cell 7
  have a8 := HAA.out.cell 8
  have a9 := HAA.out.cell 9
  simp only [opC, List.getElem?_cons_zero, List.getElem?_cons_succ] at a0 a1 a2 a3 a4 a5 a6 a7 a8 a9
  obtain ⟨x0, x1⟩ := (HH.out.keep K1).cells
  go_wp2_with fail
  refine (CC.out _ K1).mono ?_
  rintro e y ⟨v, fp1, O1, ov1, rfl, dO, M1, s1⟩
  obtain ⟨pa, pc, rfl, -, -⟩ := dO.slice
  have HDO := Hid.mk dO
  have HM1 := Hid.mk M1
  have HS1 := Hid.mk s1
  have HAB1 := Hid.mk (s1.1.arr HNF.out.2.1 HAB.out)
  clear dO M1 s1
  simp only [ansC]
  obtain ⟨b0, b1, b2, b3, b4, b5, b6, b7, b8, z0, z1, z2, z3, z4, z5, z6, z7, z8⟩ := z9 HAB1.out
  have HE := Hid.mk (MP.fin (a := ⟨aE, aN, aD, ⟨sI, sK, sM, sL, sS⟩, aP⟩) (v := (.slice pa aP.length pc)) HH.out HK1.out HM1.out HS1.out HGB.out HDO.out (fr9 (.int .i64 aE) (.int .i64 aN) (str aD) (.int .i64 (sI : Nat)) (.int .i64 (sK : Nat)) (.int .i64 sM) (.int .i64 (sL : Nat)) (.int .i64 (sS : Nat)) (.slice pa aP.length pc)))
  have HAZ := Hid.mk (arr9 HAB1.out (.int .i64 aE) (.int .i64 aN) (str aD) (.int .i64 (sI : Nat)) (.int .i64 (sK : Nat)) (.int .i64 sM) (.int .i64 (sL : Nat)) (.int .i64 (sS : Nat)) (.slice pa aP.length pc))
  go_wp2_with fail
  refine bodyPost_ret (v := .agg (ansC ⟨aE, aN, aD, ⟨sI, sK, sM, sL, sS⟩, aP⟩ (.slice pa aP.length pc)).toArray) (results_cell_row1 rfl _ _ gB 34 _ (0, 0) _ rfl HAZ.out Try.underlying34 rfl s34) rfl ?_
  exact HE.out
set_option maxRecDepth 8000 in
set_option maxHeartbeats 8000000 in
theorem mp10 {B gm gt k : Nat} {fp : Nat → Prop} {w : World} {s : Stt} {O : List Nat} {ov : Value} (o : OpV) (hK : o.kind = 10) (h : MW B fp w gm gt s O ov) (si : SI k s.u s.hs s.T) (hk : k ≤ 70000) (hp : o.path.length ≤ 100000) (hp2 : o.path2.length ≤ 100000) (hdt : o.data.length ≤ 100000) (fl : FL s.hs) (md : Md.SPM s.T) (hfr : -9223372036854775808 ≤ o.flags ∧ o.flags ≤ 9223372036854775807) (hmr : -9223372036854775808 ≤ o.mode ∧ o.mode ≤ 9223372036854775807) :
    Calls Try.prog 15 #[.pointer (some ⟨gm, 0, none⟩), .agg (opC o).toArray] w fun e w' => MP B fp w gm gt ov ⟨(rddF s.u s.hs s.T o.h o.n).2.2, ((rddF s.u s.hs s.T o.h o.n).2.1.length : Nat), [], sta0, (rddF s.u s.hs s.T o.h o.n).2.1⟩ ⟨s.u, (rddF s.u s.hs s.T o.h o.n).1, s.T⟩ e w' := by
  have HH := Hid.mk h
  obtain ⟨ok, oh, ofl, omo, on, oo, owh, op, op2, od⟩ := o
  simp only at hK hp hp2 hdt hfr hmr ⊢
  subst hK
  obtain ⟨A, hA⟩ : ∃ A : AnsV, A = ⟨(rddF s.u s.hs s.T oh on).2.2, ((rddF s.u s.hs s.T oh on).2.1.length : Nat), [], sta0, (rddF s.u s.hs s.T oh on).2.1⟩ := ⟨_, rfl⟩
  obtain ⟨S, hS⟩ : ∃ S : Stt, S = ⟨s.u, (rddF s.u s.hs s.T oh on).1, s.T⟩ := ⟨_, rfl⟩
  have CC : Hid (∀ W, Keep w W → Calls Try.prog 61 #[.pointer (some ⟨gm, 0, none⟩), .agg #[.int .i64 10, .int .i64 oh, .int .i64 ofl, .int .i64 omo, .int .i64 on, .int .i64 oo, .int .i64 owh, str op, str op2, str od]] W fun e w' => MP B fp W gm gt ov A S e w') := Hid.mk (fun W kk => by rw [hA, hS]; exact mReaddir_c ⟨10, oh, ofl, omo, on, oo, owh, op, op2, od⟩ (h.keep kk) si hk hp hp2 hdt fl)
  rw [← hA, ← hS]
  skip
  clear hA hS fl md si
  obtain ⟨aE, aN, aD, ⟨sI, sK, sM, sL, sS⟩, aP⟩ := A
  go_enter Try.func15, Try.ntmps15
  go_upto_region 1 with fail
  obtain ⟨w1, hw1⟩ : ∃ w1, w1 = (w.alloc (.cells (opC ⟨10, oh, ofl, omo, on, oo, owh, op, op2, od⟩).toArray 37)).alloc (.cells #[.int .i64 0, .int .i64 0, str [], .int .i64 0, .int .i64 0, .int .i64 0, .int .i64 0, .int .i64 0, .slice none 0 0] 34) := ⟨_, rfl⟩
  rw [← hw1]
  have TWO : Two w w1 ⟨10, oh, ofl, omo, on, oo, owh, op, op2, od⟩ := by rw [hw1]; exact Two.mk' w _
  obtain ⟨gA, hgA⟩ : ∃ g, g = w.heap.size := ⟨_, rfl⟩
  obtain ⟨gB, hgB⟩ : ∃ g, g = w.heap.size + 1 := ⟨_, rfl⟩
  have HGB : Hid (w.heap.size ≤ gB ∧ gB < w1.heap.size) := Hid.mk ⟨by omega, by rw [TWO.sz]; omega⟩
  have HAB : Hid (Arr w1 gB 34 zeroC) := Hid.mk (by rw [hgB]; exact TWO.b)
  have HAA : Hid (Arr w1 gA 37 (opC ⟨10, oh, ofl, omo, on, oo, owh, op, op2, od⟩)) := Hid.mk (by rw [hgA]; exact TWO.a)
  have K1 := TWO.k
  have HK1 := Hid.mk K1
  have HNF : Hid (¬ fpM fp gm ov gA ∧ ¬ fpM fp gm ov gB ∧ gA ≠ gB ∧ gm ≠ gB ∧ gm ≠ gA) := Hid.mk ⟨fun a => by have := HH.out.flt a; omega, fun a => by have := HH.out.flt a; omega, by omega, fun e => by have := HH.out.flt (Or.inr (Or.inl rfl) : fpM fp gm ov gm); omega, fun e => by have := HH.out.flt (Or.inr (Or.inl rfl) : fpM fp gm ov gm); omega⟩
  rw [← hgB, ← hgA]
  clear hw1 TWO hgA hgB
  have a0 := HAA.out.cell 0
  have a1 := HAA.out.cell 1
  have a2 := HAA.out.cell 2
  have a3 := HAA.out.cell 3
  have a4 := HAA.out.cell 4
  have a5 := HAA.out.cell 5
  have a6 := HAA.out.cell 6
  have a7 := HAA.out.cell 7
  have a8 := HAA.out.cell 8
  have a9 := HAA.out.cell 9
  simp only [opC, List.getElem?_cons_zero, List.getElem?_cons_succ] at a0 a1 a2 a3 a4 a5 a6 a7 a8 a9
  obtain ⟨x0, x1⟩ := (HH.out.keep K1).cells
  go_wp2_with fail
  refine (CC.out _ K1).mono ?_
  rintro e y ⟨v, fp1, O1, ov1, rfl, dO, M1, s1⟩
  obtain ⟨pa, pc, rfl, -, -⟩ := dO.slice
  have HDO := Hid.mk dO
  have HM1 := Hid.mk M1
  have HS1 := Hid.mk s1
  have HAB1 := Hid.mk (s1.1.arr HNF.out.2.1 HAB.out)
  clear dO M1 s1
  simp only [ansC]
  obtain ⟨b0, b1, b2, b3, b4, b5, b6, b7, b8, z0, z1, z2, z3, z4, z5, z6, z7, z8⟩ := z9 HAB1.out
  have HE := Hid.mk (MP.fin (a := ⟨aE, aN, aD, ⟨sI, sK, sM, sL, sS⟩, aP⟩) (v := (.slice pa aP.length pc)) HH.out HK1.out HM1.out HS1.out HGB.out HDO.out (fr9 (.int .i64 aE) (.int .i64 aN) (str aD) (.int .i64 (sI : Nat)) (.int .i64 (sK : Nat)) (.int .i64 sM) (.int .i64 (sL : Nat)) (.int .i64 (sS : Nat)) (.slice pa aP.length pc)))
  have HAZ := Hid.mk (arr9 HAB1.out (.int .i64 aE) (.int .i64 aN) (str aD) (.int .i64 (sI : Nat)) (.int .i64 (sK : Nat)) (.int .i64 sM) (.int .i64 (sL : Nat)) (.int .i64 (sS : Nat)) (.slice pa aP.length pc))
  go_wp2_with fail
  refine bodyPost_ret (v := .agg (ansC ⟨aE, aN, aD, ⟨sI, sK, sM, sL, sS⟩, aP⟩ (.slice pa aP.length pc)).toArray) (results_cell_row1 rfl _ _ gB 34 _ (0, 0) _ rfl HAZ.out Try.underlying34 rfl s34) rfl ?_
  exact HE.out
set_option maxRecDepth 8000 in
set_option maxHeartbeats 8000000 in
theorem mp11 {B gm gt k : Nat} {fp : Nat → Prop} {w : World} {s : Stt} {O : List Nat} {ov : Value} (o : OpV) (hK : o.kind = 11) (h : MW B fp w gm gt s O ov) (si : SI k s.u s.hs s.T) (hk : k ≤ 70000) (hp : o.path.length ≤ 100000) (hp2 : o.path2.length ≤ 100000) (hdt : o.data.length ≤ 100000) (fl : FL s.hs) (md : Md.SPM s.T) (hfr : -9223372036854775808 ≤ o.flags ∧ o.flags ≤ 9223372036854775807) (hmr : -9223372036854775808 ≤ o.mode ∧ o.mode ≤ 9223372036854775807) :
    Calls Try.prog 15 #[.pointer (some ⟨gm, 0, none⟩), .agg (opC o).toArray] w fun e w' => MP B fp w gm gt ov ⟨(stpF s.T o.path true).2, 0, [], (stpF s.T o.path true).1, []⟩ s e w' := by
  have HH := Hid.mk h
  obtain ⟨ok, oh, ofl, omo, on, oo, owh, op, op2, od⟩ := o
  simp only at hK hp hp2 hdt hfr hmr ⊢
  subst hK
  obtain ⟨A, hA⟩ : ∃ A : AnsV, A = ⟨(stpF s.T op true).2, 0, [], (stpF s.T op true).1, []⟩ := ⟨_, rfl⟩
  obtain ⟨S, hS⟩ : ∃ S : Stt, S = s := ⟨_, rfl⟩
  have CC : Hid (∀ W, Keep w W → Calls Try.prog 62 #[.pointer (some ⟨gm, 0, none⟩), str op, .bool true] W fun e w' => MP B fp W gm gt ov A S e w') := Hid.mk (fun W kk => by rw [hA, hS]; exact mStat_c (h.keep kk) si hk op hp true)
  rw [← hA]
  subst hS
  clear hA  fl md si
  obtain ⟨aE, aN, aD, ⟨sI, sK, sM, sL, sS⟩, aP⟩ := A
  go_enter Try.func15, Try.ntmps15
  go_upto_region 1 with fail
  obtain ⟨w1, hw1⟩ : ∃ w1, w1 = (w.alloc (.cells (opC ⟨11, oh, ofl, omo, on, oo, owh, op, op2, od⟩).toArray 37)).alloc (.cells #[.int .i64 0, .int .i64 0, str [], .int .i64 0, .int .i64 0, .int .i64 0, .int .i64 0, .int .i64 0, .slice none 0 0] 34) := ⟨_, rfl⟩
  rw [← hw1]
  have TWO : Two w w1 ⟨11, oh, ofl, omo, on, oo, owh, op, op2, od⟩ := by rw [hw1]; exact Two.mk' w _
  obtain ⟨gA, hgA⟩ : ∃ g, g = w.heap.size := ⟨_, rfl⟩
  obtain ⟨gB, hgB⟩ : ∃ g, g = w.heap.size + 1 := ⟨_, rfl⟩
  have HGB : Hid (w.heap.size ≤ gB ∧ gB < w1.heap.size) := Hid.mk ⟨by omega, by rw [TWO.sz]; omega⟩
  have HAB : Hid (Arr w1 gB 34 zeroC) := Hid.mk (by rw [hgB]; exact TWO.b)
  have HAA : Hid (Arr w1 gA 37 (opC ⟨11, oh, ofl, omo, on, oo, owh, op, op2, od⟩)) := Hid.mk (by rw [hgA]; exact TWO.a)
  have K1 := TWO.k
  have HK1 := Hid.mk K1
  have HNF : Hid (¬ fpM fp gm ov gA ∧ ¬ fpM fp gm ov gB ∧ gA ≠ gB ∧ gm ≠ gB ∧ gm ≠ gA) := Hid.mk ⟨fun a => by have := HH.out.flt a; omega, fun a => by have := HH.out.flt a; omega, by omega, fun e => by have := HH.out.flt (Or.inr (Or.inl rfl) : fpM fp gm ov gm); omega, fun e => by have := HH.out.flt (Or.inr (Or.inl rfl) : fpM fp gm ov gm); omega⟩
  rw [← hgB, ← hgA]
  clear hw1 TWO hgA hgB
  have a0 := HAA.out.cell 0
  have a1 := HAA.out.cell 1
  have a2 := HAA.out.cell 2
  have a3 := HAA.out.cell 3
  have a4 := HAA.out.cell 4
  have a5 := HAA.out.cell 5
  have a6 := HAA.out.cell 6
  have a7 := HAA.out.cell 7
  have a8 := HAA.out.cell 8
  have a9 := HAA.out.cell 9
  simp only [opC, List.getElem?_cons_zero, List.getElem?_cons_succ] at a0 a1 a2 a3 a4 a5 a6 a7 a8 a9
  obtain ⟨x0, x1⟩ := (HH.out.keep K1).cells
  go_wp2_with fail
  refine (CC.out _ K1).mono ?_
  rintro e y ⟨v, fp1, O1, ov1, rfl, dO, M1, s1⟩
  obtain ⟨pa, pc, rfl, -, -⟩ := dO.slice
  have HDO := Hid.mk dO
  have HM1 := Hid.mk M1
  have HS1 := Hid.mk s1
  have HAB1 := Hid.mk (s1.1.arr HNF.out.2.1 HAB.out)
  clear dO M1 s1
  simp only [ansC]
  obtain ⟨b0, b1, b2, b3, b4, b5, b6, b7, b8, z0, z1, z2, z3, z4, z5, z6, z7, z8⟩ := z9 HAB1.out
  have HE := Hid.mk (MP.fin (a := ⟨aE, aN, aD, ⟨sI, sK, sM, sL, sS⟩, aP⟩) (v := (.slice pa aP.length pc)) HH.out HK1.out HM1.out HS1.out HGB.out HDO.out (fr9 (.int .i64 aE) (.int .i64 aN) (str aD) (.int .i64 (sI : Nat)) (.int .i64 (sK : Nat)) (.int .i64 sM) (.int .i64 (sL : Nat)) (.int .i64 (sS : Nat)) (.slice pa aP.length pc)))
  have HAZ := Hid.mk (arr9 HAB1.out (.int .i64 aE) (.int .i64 aN) (str aD) (.int .i64 (sI : Nat)) (.int .i64 (sK : Nat)) (.int .i64 sM) (.int .i64 (sL : Nat)) (.int .i64 (sS : Nat)) (.slice pa aP.length pc))
  go_wp2_with fail
  refine bodyPost_ret (v := .agg (ansC ⟨aE, aN, aD, ⟨sI, sK, sM, sL, sS⟩, aP⟩ (.slice pa aP.length pc)).toArray) (results_cell_row1 rfl _ _ gB 34 _ (0, 0) _ rfl HAZ.out Try.underlying34 rfl s34) rfl ?_
  exact HE.out
set_option maxRecDepth 8000 in
set_option maxHeartbeats 8000000 in
theorem mp12 {B gm gt k : Nat} {fp : Nat → Prop} {w : World} {s : Stt} {O : List Nat} {ov : Value} (o : OpV) (hK : o.kind = 12) (h : MW B fp w gm gt s O ov) (si : SI k s.u s.hs s.T) (hk : k ≤ 70000) (hp : o.path.length ≤ 100000) (hp2 : o.path2.length ≤ 100000) (hdt : o.data.length ≤ 100000) (fl : FL s.hs) (md : Md.SPM s.T) (hfr : -9223372036854775808 ≤ o.flags ∧ o.flags ≤ 9223372036854775807) (hmr : -9223372036854775808 ≤ o.mode ∧ o.mode ≤ 9223372036854775807) :
    Calls Try.prog 15 #[.pointer (some ⟨gm, 0, none⟩), .agg (opC o).toArray] w fun e w' => MP B fp w gm gt ov ⟨(stpF s.T o.path false).2, 0, [], (stpF s.T o.path false).1, []⟩ s e w' := by
  have HH := Hid.mk h
  obtain ⟨ok, oh, ofl, omo, on, oo, owh, op, op2, od⟩ := o
  simp only at hK hp hp2 hdt hfr hmr ⊢
  subst hK
  obtain ⟨A, hA⟩ : ∃ A : AnsV, A = ⟨(stpF s.T op false).2, 0, [], (stpF s.T op false).1, []⟩ := ⟨_, rfl⟩
  obtain ⟨S, hS⟩ : ∃ S : Stt, S = s := ⟨_, rfl⟩
  have CC : Hid (∀ W, Keep w W → Calls Try.prog 62 #[.pointer (some ⟨gm, 0, none⟩), str op, .bool false] W fun e w' => MP B fp W gm gt ov A S e w') := Hid.mk (fun W kk => by rw [hA, hS]; exact mStat_c (h.keep kk) si hk op hp false)
  rw [← hA]
  subst hS
  clear hA  fl md si
  obtain ⟨aE, aN, aD, ⟨sI, sK, sM, sL, sS⟩, aP⟩ := A
  go_enter Try.func15, Try.ntmps15
  go_upto_region 1 with fail
  obtain ⟨w1, hw1⟩ : ∃ w1, w1 = (w.alloc (.cells (opC ⟨12, oh, ofl, omo, on, oo, owh, op, op2, od⟩).toArray 37)).alloc (.cells #[.int .i64 0, .int .i64 0, str [], .int .i64 0, .int .i64 0, .int .i64 0, .int .i64 0, .int .i64 0, .slice none 0 0] 34) := ⟨_, rfl⟩
  rw [← hw1]
  have TWO : Two w w1 ⟨12, oh, ofl, omo, on, oo, owh, op, op2, od⟩ := by rw [hw1]; exact Two.mk' w _
  obtain ⟨gA, hgA⟩ : ∃ g, g = w.heap.size := ⟨_, rfl⟩
  obtain ⟨gB, hgB⟩ : ∃ g, g = w.heap.size + 1 := ⟨_, rfl⟩
  have HGB : Hid (w.heap.size ≤ gB ∧ gB < w1.heap.size) := Hid.mk ⟨by omega, by rw [TWO.sz]; omega⟩
  have HAB : Hid (Arr w1 gB 34 zeroC) := Hid.mk (by rw [hgB]; exact TWO.b)
  have HAA : Hid (Arr w1 gA 37 (opC ⟨12, oh, ofl, omo, on, oo, owh, op, op2, od⟩)) := Hid.mk (by rw [hgA]; exact TWO.a)
  have K1 := TWO.k
  have HK1 := Hid.mk K1
  have HNF : Hid (¬ fpM fp gm ov gA ∧ ¬ fpM fp gm ov gB ∧ gA ≠ gB ∧ gm ≠ gB ∧ gm ≠ gA) := Hid.mk ⟨fun a => by have := HH.out.flt a; omega, fun a => by have := HH.out.flt a; omega, by omega, fun e => by have := HH.out.flt (Or.inr (Or.inl rfl) : fpM fp gm ov gm); omega, fun e => by have := HH.out.flt (Or.inr (Or.inl rfl) : fpM fp gm ov gm); omega⟩
  rw [← hgB, ← hgA]
  clear hw1 TWO hgA hgB
  have a0 := HAA.out.cell 0
  have a1 := HAA.out.cell 1
  have a2 := HAA.out.cell 2
  have a3 := HAA.out.cell 3
  have a4 := HAA.out.cell 4
  have a5 := HAA.out.cell 5
  have a6 := HAA.out.cell 6
  have a7 := HAA.out.cell 7
  have a8 := HAA.out.cell 8
  have a9 := HAA.out.cell 9
  simp only [opC, List.getElem?_cons_zero, List.getElem?_cons_succ] at a0 a1 a2 a3 a4 a5 a6 a7 a8 a9
  obtain ⟨x0, x1⟩ := (HH.out.keep K1).cells
  go_wp2_with fail
  refine (CC.out _ K1).mono ?_
  rintro e y ⟨v, fp1, O1, ov1, rfl, dO, M1, s1⟩
  obtain ⟨pa, pc, rfl, -, -⟩ := dO.slice
  have HDO := Hid.mk dO
  have HM1 := Hid.mk M1
  have HS1 := Hid.mk s1
  have HAB1 := Hid.mk (s1.1.arr HNF.out.2.1 HAB.out)
  clear dO M1 s1
  simp only [ansC]
  obtain ⟨b0, b1, b2, b3, b4, b5, b6, b7, b8, z0, z1, z2, z3, z4, z5, z6, z7, z8⟩ := z9 HAB1.out
  have HE := Hid.mk (MP.fin (a := ⟨aE, aN, aD, ⟨sI, sK, sM, sL, sS⟩, aP⟩) (v := (.slice pa aP.length pc)) HH.out HK1.out HM1.out HS1.out HGB.out HDO.out (fr9 (.int .i64 aE) (.int .i64 aN) (str aD) (.int .i64 (sI : Nat)) (.int .i64 (sK : Nat)) (.int .i64 sM) (.int .i64 (sL : Nat)) (.int .i64 (sS : Nat)) (.slice pa aP.length pc)))
  have HAZ := Hid.mk (arr9 HAB1.out (.int .i64 aE) (.int .i64 aN) (str aD) (.int .i64 (sI : Nat)) (.int .i64 (sK : Nat)) (.int .i64 sM) (.int .i64 (sL : Nat)) (.int .i64 (sS : Nat)) (.slice pa aP.length pc))
  go_wp2_with fail
  refine bodyPost_ret (v := .agg (ansC ⟨aE, aN, aD, ⟨sI, sK, sM, sL, sS⟩, aP⟩ (.slice pa aP.length pc)).toArray) (results_cell_row1 rfl _ _ gB 34 _ (0, 0) _ rfl HAZ.out Try.underlying34 rfl s34) rfl ?_
  exact HE.out
set_option maxRecDepth 8000 in
set_option maxHeartbeats 8000000 in
theorem mp14 {B gm gt k : Nat} {fp : Nat → Prop} {w : World} {s : Stt} {O : List Nat} {ov : Value} (o : OpV) (hK : o.kind = 14) (h : MW B fp w gm gt s O ov) (si : SI k s.u s.hs s.T) (hk : k ≤ 70000) (hp : o.path.length ≤ 100000) (hp2 : o.path2.length ≤ 100000) (hdt : o.data.length ≤ 100000) (fl : FL s.hs) (md : Md.SPM s.T) (hfr : -9223372036854775808 ≤ o.flags ∧ o.flags ≤ 9223372036854775807) (hmr : -9223372036854775808 ≤ o.mode ∧ o.mode ≤ 9223372036854775807) :
    Calls Try.prog 15 #[.pointer (some ⟨gm, 0, none⟩), .agg (opC o).toArray] w fun e w' => MP B fp w gm gt ov ⟨(trpT s.T o.path o.off).2, 0, [], sta0, []⟩ ⟨s.u, s.hs, (trpT s.T o.path o.off).1⟩ e w' := by
  have HH := Hid.mk h
  obtain ⟨ok, oh, ofl, omo, on, oo, owh, op, op2, od⟩ := o
  simp only at hK hp hp2 hdt hfr hmr ⊢
  subst hK
  obtain ⟨A, hA⟩ : ∃ A : AnsV, A = ⟨(trpT s.T op oo).2, 0, [], sta0, []⟩ := ⟨_, rfl⟩
  obtain ⟨S, hS⟩ : ∃ S : Stt, S = ⟨s.u, s.hs, (trpT s.T op oo).1⟩ := ⟨_, rfl⟩
  have CC : Hid (∀ W, Keep w W → Calls Try.prog 64 #[.pointer (some ⟨gm, 0, none⟩), .agg #[.int .i64 14, .int .i64 oh, .int .i64 ofl, .int .i64 omo, .int .i64 on, .int .i64 oo, .int .i64 owh, str op, str op2, str od]] W fun e w' => MP B fp W gm gt ov A S e w') := Hid.mk (fun W kk => by rw [hA, hS]; exact mTrunc_c ⟨14, oh, ofl, omo, on, oo, owh, op, op2, od⟩ (h.keep kk) si hk hp hp2 hdt md)
  rw [← hA, ← hS]
  skip
  clear hA hS fl md si
  obtain ⟨aE, aN, aD, ⟨sI, sK, sM, sL, sS⟩, aP⟩ := A
  go_enter Try.func15, Try.ntmps15
  go_upto_region 1 with fail
  obtain ⟨w1, hw1⟩ : ∃ w1, w1 = (w.alloc (.cells (opC ⟨14, oh, ofl, omo, on, oo, owh, op, op2, od⟩).toArray 37)).alloc (.cells #[.int .i64 0, .int .i64 0, str [], .int .i64 0, .int .i64 0, .int .i64 0, .int .i64 0, .int .i64 0, .slice none 0 0] 34) := ⟨_, rfl⟩
  rw [← hw1]
  have TWO : Two w w1 ⟨14, oh, ofl, omo, on, oo, owh, op, op2, od⟩ := by rw [hw1]; exact Two.mk' w _
  obtain ⟨gA, hgA⟩ : ∃ g, g = w.heap.size := ⟨_, rfl⟩
  obtain ⟨gB, hgB⟩ : ∃ g, g = w.heap.size + 1 := ⟨_, rfl⟩
  have HGB : Hid (w.heap.size ≤ gB ∧ gB < w1.heap.size) := Hid.mk ⟨by omega, by rw [TWO.sz]; omega⟩
  have HAB : Hid (Arr w1 gB 34 zeroC) := Hid.mk (by rw [hgB]; exact TWO.b)
  have HAA : Hid (Arr w1 gA 37 (opC ⟨14, oh, ofl, omo, on, oo, owh, op, op2, od⟩)) := Hid.mk (by rw [hgA]; exact TWO.a)
  have K1 := TWO.k
  have HK1 := Hid.mk K1
  have HNF : Hid (¬ fpM fp gm ov gA ∧ ¬ fpM fp gm ov gB ∧ gA ≠ gB ∧ gm ≠ gB ∧ gm ≠ gA) := Hid.mk ⟨fun a => by have := HH.out.flt a; omega, fun a => by have := HH.out.flt a; omega, by omega, fun e => by have := HH.out.flt (Or.inr (Or.inl rfl) : fpM fp gm ov gm); omega, fun e => by have := HH.out.flt (Or.inr (Or.inl rfl) : fpM fp gm ov gm); omega⟩
  rw [← hgB, ← hgA]
  clear hw1 TWO hgA hgB
  have a0 := HAA.out.cell 0
  have a1 := HAA.out.cell 1
  have a2 := HAA.out.cell 2
  have a3 := HAA.out.cell 3
  have a4 := HAA.out.cell 4
  have a5 := HAA.out.cell 5
  have a6 := HAA.out.cell 6
  have a7 := HAA.out.cell 7
  have a8 := HAA.out.cell 8
  have a9 := HAA.out.cell 9
  simp only [opC, List.getElem?_cons_zero, List.getElem?_cons_succ] at a0 a1 a2 a3 a4 a5 a6 a7 a8 a9
  obtain ⟨x0, x1⟩ := (HH.out.keep K1).cells
  go_wp2_with fail
  refine (CC.out _ K1).mono ?_
  rintro e y ⟨v, fp1, O1, ov1, rfl, dO, M1, s1⟩
  obtain ⟨pa, pc, rfl, -, -⟩ := dO.slice
  have HDO := Hid.mk dO
  have HM1 := Hid.mk M1
  have HS1 := Hid.mk s1
  have HAB1 := Hid.mk (s1.1.arr HNF.out.2.1 HAB.out)
  clear dO M1 s1
  simp only [ansC]
  obtain ⟨b0, b1, b2, b3, b4, b5, b6, b7, b8, z0, z1, z2, z3, z4, z5, z6, z7, z8⟩ := z9 HAB1.out
  have HE := Hid.mk (MP.fin (a := ⟨aE, aN, aD, ⟨sI, sK, sM, sL, sS⟩, aP⟩) (v := (.slice pa aP.length pc)) HH.out HK1.out HM1.out HS1.out HGB.out HDO.out (fr9 (.int .i64 aE) (.int .i64 aN) (str aD) (.int .i64 (sI : Nat)) (.int .i64 (sK : Nat)) (.int .i64 sM) (.int .i64 (sL : Nat)) (.int .i64 (sS : Nat)) (.slice pa aP.length pc)))
  have HAZ := Hid.mk (arr9 HAB1.out (.int .i64 aE) (.int .i64 aN) (str aD) (.int .i64 (sI : Nat)) (.int .i64 (sK : Nat)) (.int .i64 sM) (.int .i64 (sL : Nat)) (.int .i64 (sS : Nat)) (.slice pa aP.length pc))
  go_wp2_with fail
  refine bodyPost_ret (v := .agg (ansC ⟨aE, aN, aD, ⟨sI, sK, sM, sL, sS⟩, aP⟩ (.slice pa aP.length pc)).toArray) (results_cell_row1 rfl _ _ gB 34 _ (0, 0) _ rfl HAZ.out Try.underlying34 rfl s34) rfl ?_
  exact HE.out
end Go.Proofs.Qxb6500767a
