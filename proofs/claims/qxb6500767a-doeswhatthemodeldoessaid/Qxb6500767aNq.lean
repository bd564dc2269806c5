/- unionvfsm: Play, the arms of names. -/
import Derived.Test.Qxb6500767aNh
namespace Go.Proofs.Qxb6500767a
open Go.RowKit Go.Qm
set_option linter.unusedVariables false
set_option linter.unusedSimpArgs false
attribute [local go_sem ↓] Go.wp_at_zero Go.wp_at_succ
set_option maxRecDepth 8000 in
set_option maxHeartbeats 8000000 in
theorem mp17 {B gm gt k : Nat} {fp : Nat → Prop} {w : World} {s : Stt} {O : List Nat} {ov : Value} (o : OpV) (hK : o.kind = 17) (h : MW B fp w gm gt s O ov) (si : SI k s.u s.hs s.T) (hk : k ≤ 70000) (hp : o.path.length ≤ 100000) (hp2 : o.path2.length ≤ 100000) (hdt : o.data.length ≤ 100000)  :
    Calls Try.prog 15 #[.pointer (some ⟨gm, 0, none⟩), .agg (opC o).toArray] w fun e w' => MP B fp w gm gt ov ⟨(unlT s.T o.path).2, 0, [], sta0, []⟩ ⟨s.u, s.hs, (unlT s.T o.path).1⟩ e w' := by
  have HH := Hid.mk h
  obtain ⟨ok, oh, ofl, omo, on, oo, owh, op, op2, od⟩ := o
  simp only at hK hp hp2 hdt ⊢
  subst hK
  have lim := si.lim (by omega)
  have HC2 := Hid.mk (fun W (kk : Keep w W) => unlink_c B gt op fp s.T W (h.keep kk).tree lim hp)
  generalize unlT s.T op = X at *
  obtain ⟨T', rr⟩ := X
  simp only at HC2 ⊢
  clear lim si h
  go_enter Try.func15, Try.ntmps15
  go_upto_region 1 with fail
  obtain ⟨w1, hw1⟩ : ∃ w1, w1 = (w.alloc (.cells (opC ⟨17, oh, ofl, omo, on, oo, owh, op, op2, od⟩).toArray 37)).alloc (.cells #[.int .i64 0, .int .i64 0, str [], .int .i64 0, .int .i64 0, .int .i64 0, .int .i64 0, .int .i64 0, .slice none 0 0] 34) := ⟨_, rfl⟩
  rw [← hw1]
  have TWO : Two w w1 ⟨17, oh, ofl, omo, on, oo, owh, op, op2, od⟩ := by rw [hw1]; exact Two.mk' w _
  obtain ⟨gA, hgA⟩ : ∃ g, g = w.heap.size := ⟨_, rfl⟩
  obtain ⟨gB, hgB⟩ : ∃ g, g = w.heap.size + 1 := ⟨_, rfl⟩
  have HGB : Hid (w.heap.size ≤ gB ∧ gB < w1.heap.size) := Hid.mk ⟨by omega, by rw [TWO.sz]; omega⟩
  have HAB : Hid (Arr w1 gB 34 zeroC) := Hid.mk (by rw [hgB]; exact TWO.b)
  have HAA : Hid (Arr w1 gA 37 (opC ⟨17, oh, ofl, omo, on, oo, owh, op, op2, od⟩)) := Hid.mk (by rw [hgA]; exact TWO.a)
  have K1 := TWO.k
  have HK1 := Hid.mk K1
  have HNF : Hid (¬ fpM fp gm ov gA ∧ ¬ fpM fp gm ov gB ∧ gA ≠ gB ∧ gm ≠ gB ∧ gm ≠ gA) := Hid.mk ⟨fun a => by have := HH.out.flt a; omega, fun a => by have := HH.out.flt a; omega, by omega, fun e => by have := HH.out.flt (Or.inr (Or.inl rfl) : fpM fp gm ov gm); omega, fun e => by have := HH.out.flt (Or.inr (Or.inl rfl) : fpM fp gm ov gm); omega⟩
  rw [← hgB, ← hgA]
  clear hw1 TWO hgA hgB
  have a0 := HAA.out.cell 0
  have a1 := HAA.out.cell 1
  have a2 := HAA.out.cell 2
  have a3 := HAA.out.cell 3
  have a4 := HAA.out.cell 4
  have a5 := HAA.out.cell 5
  have a6 := HAA.out.cell 6
  have a7 := HAA.out.cell 7
  have a8 := HAA.out.cell 8
  have a9 := HAA.out.cell 9
  simp only [opC, List.getElem?_cons_zero, List.getElem?_cons_succ] at a0 a1 a2 a3 a4 a5 a6 a7 a8 a9
  obtain ⟨x0, x1⟩ := (HH.out.keep K1).cells
  go_upto_region 62 with fail
  have HS : Hid (∀ (W : World) (i : Nat) (v : Value), (W.cell? ⟨gm, 0, none⟩ = some (.pointer (some ⟨gt, 0, none⟩)) ∧ W.cell? ⟨gA, 7, none⟩ = some (str op)) → ((fun W : World => W.cell? ⟨gm, 0, none⟩ = some (.pointer (some ⟨gt, 0, none⟩)) ∧ W.cell? ⟨gA, 7, none⟩ = some (str op)) (W.setCell ⟨gB, i, none⟩ v))) := Hid.mk (fun W i v hc => ⟨(cell_other HNF.out.2.2.2.1 v).trans hc.1, (cell_other HNF.out.2.2.1 v).trans hc.2⟩)
  have HSK : Hid (∀ W : World, Keep w1 W → (W.cell? ⟨gm, 0, none⟩ = some (.pointer (some ⟨gt, 0, none⟩)) ∧ W.cell? ⟨gA, 7, none⟩ = some (str op))) := Hid.mk (fun W kk => ⟨kk.cell x0, kk.cell a7⟩)
  have HAAW := Hid.mk (HAA.out.keep (Keep.refl w1))
  have HABW := Hid.mk (HAB.out.keep (Keep.refl w1))
  have HMW := Hid.mk (HH.out.keep (HK1.out.trans (Keep.refl w1)))
  have HKW := Hid.mk (Keep.refl w1)
  go_region_held3 (fun W : World => W.cell? ⟨gm, 0, none⟩ = some (.pointer (some ⟨gt, 0, none⟩)) ∧ W.cell? ⟨gA, 7, none⟩ = some (str op))
    (with_reducible first | assumption | exact ⟨x0, a7⟩ | exact HSK.out _ (Keep.refl w1).drew | exact S2 | exact S3 | exact HS.out _ _ _ S3 | exact HS.out _ _ _ (HS.out _ _ _ (HS.out _ _ _ (HS.out _ _ _ (HS.out _ _ _ (HS.out _ _ _ (HS.out _ _ _ (HS.out _ _ _ (HS.out _ _ _ S3)))))))))
    (first
      | (go_at_call 67; refine (HC2.out _ (HK1.out.trans (Keep.refl w1).drew)).mono ?_; rintro x y ⟨fp1, rfl, t1, s1⟩
         obtain ⟨M1, s2⟩ := (HMW.out.keep (Keep.refl w1).drew).step t1 s1
         have AA1 := s2.1.arr HNF.out.1 (HAAW.out.keep (Keep.refl w1).drew)
         have AB1 := s2.1.arr HNF.out.2.1 (HABW.out.keep (Keep.refl w1).drew)
         have S2 : (fun W : World => W.cell? ⟨gm, 0, none⟩ = some (.pointer (some ⟨gt, 0, none⟩)) ∧ W.cell? ⟨gA, 7, none⟩ = some (str op)) y := ⟨M1.cells.1, AA1.cell 7⟩
         have HM1 := Hid.mk M1
         have HS1 := Hid.mk ((Stp.keep (HKW.out.trans (Keep.refl w1).drew)).trans s2)
         have HAB1 := Hid.mk AB1
         clear M1 s1 s2 t1 AA1 AB1)
      | (go_at_call 56; refine (refuse_c rr _).mono ?_; rintro x y2 ⟨rfl, q2⟩
         have S3 : (fun W : World => W.cell? ⟨gm, 0, none⟩ = some (.pointer (some ⟨gt, 0, none⟩)) ∧ W.cell? ⟨gA, 7, none⟩ = some (str op)) y2 := ⟨q2.cell S2.1, q2.cell S2.2⟩
         obtain ⟨b0, b1, b2, b3, b4, b5, b6, b7, b8, z0, z1, z2, z3, z4, z5, z6, z7, z8⟩ := z9 (HAB1.out.keep q2)
         have HE := Hid.mk (MP.fin (a := ⟨rr, 0, [], sta0, []⟩) (v := .slice none 0 0) HH.out HK1.out (HM1.out.keep q2) (HS1.out.trans (Stp.keep q2)) HGB.out (OwnS.nil _ _ _ _ _) (fr9 (.int .i64 rr) (.int .i64 0) (str []) (.int .i64 0) (.int .i64 0) (.int .i64 0) (.int .i64 0) (.int .i64 0) (.slice none 0 0)))
         have HAZ := Hid.mk (arr9 (HAB1.out.keep q2) (.int .i64 rr) (.int .i64 0) (str []) (.int .i64 0) (.int .i64 0) (.int .i64 0) (.int .i64 0) (.int .i64 0) (.slice none 0 0))
         clear q2))
  go_wp2_with fail
  refine bodyPost_ret (v := .agg (ansC ⟨rr, 0, [], sta0, []⟩ (.slice none 0 0)).toArray) (results_cell_row1 rfl _ _ gB 34 _ (0, 0) _ rfl HAZ.out Try.underlying34 rfl s34) rfl ?_
  exact HE.out
set_option maxRecDepth 8000 in
set_option maxHeartbeats 8000000 in
theorem mp18 {B gm gt k : Nat} {fp : Nat → Prop} {w : World} {s : Stt} {O : List Nat} {ov : Value} (o : OpV) (hK : o.kind = 18) (h : MW B fp w gm gt s O ov) (si : SI k s.u s.hs s.T) (hk : k ≤ 70000) (hp : o.path.length ≤ 100000) (hp2 : o.path2.length ≤ 100000) (hdt : o.data.length ≤ 100000)  :
    Calls Try.prog 15 #[.pointer (some ⟨gm, 0, none⟩), .agg (opC o).toArray] w fun e w' => MP B fp w gm gt ov ⟨(rmdT s.T o.path).2, 0, [], sta0, []⟩ ⟨s.u, s.hs, (rmdT s.T o.path).1⟩ e w' := by
  have HH := Hid.mk h
  obtain ⟨ok, oh, ofl, omo, on, oo, owh, op, op2, od⟩ := o
  simp only at hK hp hp2 hdt ⊢
  subst hK
  have lim := si.lim (by omega)
  have HC2 := Hid.mk (fun W (kk : Keep w W) => rmdir_c B gt op fp s.T W (h.keep kk).tree lim hp)
  generalize rmdT s.T op = X at *
  obtain ⟨T', rr⟩ := X
  simp only at HC2 ⊢
  clear lim si h
  go_enter Try.func15, Try.ntmps15
  go_upto_region 1 with fail
  obtain ⟨w1, hw1⟩ : ∃ w1, w1 = (w.alloc (.cells (opC ⟨18, oh, ofl, omo, on, oo, owh, op, op2, od⟩).toArray 37)).alloc (.cells #[.int .i64 0, .int .i64 0, str [], .int .i64 0, .int .i64 0, .int .i64 0, .int .i64 0, .int .i64 0, .slice none 0 0] 34) := ⟨_, rfl⟩
  rw [← hw1]
  have TWO : Two w w1 ⟨18, oh, ofl, omo, on, oo, owh, op, op2, od⟩ := by rw [hw1]; exact Two.mk' w _
  obtain ⟨gA, hgA⟩ : ∃ g, g = w.heap.size := ⟨_, rfl⟩
  obtain ⟨gB, hgB⟩ : ∃ g, g = w.heap.size + 1 := ⟨_, rfl⟩
  have HGB : Hid (w.heap.size ≤ gB ∧ gB < w1.heap.size) := Hid.mk ⟨by omega, by rw [TWO.sz]; omega⟩
  have HAB : Hid (Arr w1 gB 34 zeroC) := Hid.mk (by rw [hgB]; exact TWO.b)
  have HAA : Hid (Arr w1 gA 37 (opC ⟨18, oh, ofl, omo, on, oo, owh, op, op2, od⟩)) := Hid.mk (by rw [hgA]; exact TWO.a)
  have K1 := TWO.k
  have HK1 := Hid.mk K1
  have HNF : Hid (¬ fpM fp gm ov gA ∧ ¬ fpM fp gm ov gB ∧ gA ≠ gB ∧ gm ≠ gB ∧ gm ≠ gA) := Hid.mk ⟨fun a => by have := HH.out.flt a; omega, fun a => by have := HH.out.flt a; omega, by omega, fun e => by have := HH.out.flt (Or.inr (Or.inl rfl) : fpM fp gm ov gm); omega, fun e => by have := HH.out.flt (Or.inr (Or.inl rfl) : fpM fp gm ov gm); omega⟩
  rw [← hgB, ← hgA]
  clear hw1 TWO hgA hgB
  have a0 := HAA.out.cell 0
  have a1 := HAA.out.cell 1
  have a2 := HAA.out.cell 2
  have a3 := HAA.out.cell 3
  have a4 := HAA.out.cell 4
  have a5 := HAA.out.cell 5
  have a6 := HAA.out.cell 6
  have a7 := HAA.out.cell 7
  have a8 := HAA.out.cell 8
  have a9 := HAA.out.cell 9
  simp only [opC, List.getElem?_cons_zero, List.getElem?_cons_succ] at a0 a1 a2 a3 a4 a5 a6 a7 a8 a9
  obtain ⟨x0, x1⟩ := (HH.out.keep K1).cells
  go_upto_region 64 with fail
  have HS : Hid (∀ (W : World) (i : Nat) (v : Value), (W.cell? ⟨gm, 0, none⟩ = some (.pointer (some ⟨gt, 0, none⟩)) ∧ W.cell? ⟨gA, 7, none⟩ = some (str op)) → ((fun W : World => W.cell? ⟨gm, 0, none⟩ = some (.pointer (some ⟨gt, 0, none⟩)) ∧ W.cell? ⟨gA, 7, none⟩ = some (str op)) (W.setCell ⟨gB, i, none⟩ v))) := Hid.mk (fun W i v hc => ⟨(cell_other HNF.out.2.2.2.1 v).trans hc.1, (cell_other HNF.out.2.2.1 v).trans hc.2⟩)
  have HSK : Hid (∀ W : World, Keep w1 W → (W.cell? ⟨gm, 0, none⟩ = some (.pointer (some ⟨gt, 0, none⟩)) ∧ W.cell? ⟨gA, 7, none⟩ = some (str op))) := Hid.mk (fun W kk => ⟨kk.cell x0, kk.cell a7⟩)
  have HAAW := Hid.mk (HAA.out.keep (Keep.refl w1))
  have HABW := Hid.mk (HAB.out.keep (Keep.refl w1))
  have HMW := Hid.mk (HH.out.keep (HK1.out.trans (Keep.refl w1)))
  have HKW := Hid.mk (Keep.refl w1)
  go_region_held3 (fun W : World => W.cell? ⟨gm, 0, none⟩ = some (.pointer (some ⟨gt, 0, none⟩)) ∧ W.cell? ⟨gA, 7, none⟩ = some (str op))
    (with_reducible first | assumption | exact ⟨x0, a7⟩ | exact HSK.out _ (Keep.refl w1).drew | exact S2 | exact S3 | exact HS.out _ _ _ S3 | exact HS.out _ _ _ (HS.out _ _ _ (HS.out _ _ _ (HS.out _ _ _ (HS.out _ _ _ (HS.out _ _ _ (HS.out _ _ _ (HS.out _ _ _ (HS.out _ _ _ S3)))))))))
    (first
      | (go_at_call 68; refine (HC2.out _ (HK1.out.trans (Keep.refl w1).drew)).mono ?_; rintro x y ⟨fp1, rfl, t1, s1⟩
         obtain ⟨M1, s2⟩ := (HMW.out.keep (Keep.refl w1).drew).step t1 s1
         have AA1 := s2.1.arr HNF.out.1 (HAAW.out.keep (Keep.refl w1).drew)
         have AB1 := s2.1.arr HNF.out.2.1 (HABW.out.keep (Keep.refl w1).drew)
         have S2 : (fun W : World => W.cell? ⟨gm, 0, none⟩ = some (.pointer (some ⟨gt, 0, none⟩)) ∧ W.cell? ⟨gA, 7, none⟩ = some (str op)) y := ⟨M1.cells.1, AA1.cell 7⟩
         have HM1 := Hid.mk M1
         have HS1 := Hid.mk ((Stp.keep (HKW.out.trans (Keep.refl w1).drew)).trans s2)
         have HAB1 := Hid.mk AB1
         clear M1 s1 s2 t1 AA1 AB1)
      | (go_at_call 56; refine (refuse_c rr _).mono ?_; rintro x y2 ⟨rfl, q2⟩
         have S3 : (fun W : World => W.cell? ⟨gm, 0, none⟩ = some (.pointer (some ⟨gt, 0, none⟩)) ∧ W.cell? ⟨gA, 7, none⟩ = some (str op)) y2 := ⟨q2.cell S2.1, q2.cell S2.2⟩
         obtain ⟨b0, b1, b2, b3, b4, b5, b6, b7, b8, z0, z1, z2, z3, z4, z5, z6, z7, z8⟩ := z9 (HAB1.out.keep q2)
         have HE := Hid.mk (MP.fin (a := ⟨rr, 0, [], sta0, []⟩) (v := .slice none 0 0) HH.out HK1.out (HM1.out.keep q2) (HS1.out.trans (Stp.keep q2)) HGB.out (OwnS.nil _ _ _ _ _) (fr9 (.int .i64 rr) (.int .i64 0) (str []) (.int .i64 0) (.int .i64 0) (.int .i64 0) (.int .i64 0) (.int .i64 0) (.slice none 0 0)))
         have HAZ := Hid.mk (arr9 (HAB1.out.keep q2) (.int .i64 rr) (.int .i64 0) (str []) (.int .i64 0) (.int .i64 0) (.int .i64 0) (.int .i64 0) (.int .i64 0) (.slice none 0 0))
         clear q2))
  go_wp2_with fail
  refine bodyPost_ret (v := .agg (ansC ⟨rr, 0, [], sta0, []⟩ (.slice none 0 0)).toArray) (results_cell_row1 rfl _ _ gB 34 _ (0, 0) _ rfl HAZ.out Try.underlying34 rfl s34) rfl ?_
  exact HE.out
set_option maxRecDepth 8000 in
set_option maxHeartbeats 8000000 in
theorem mp19 {B gm gt k : Nat} {fp : Nat → Prop} {w : World} {s : Stt} {O : List Nat} {ov : Value} (o : OpV) (hK : o.kind = 19) (h : MW B fp w gm gt s O ov) (si : SI k s.u s.hs s.T) (hk : k ≤ 70000) (hp : o.path.length ≤ 100000) (hp2 : o.path2.length ≤ 100000) (hdt : o.data.length ≤ 100000)  :
    Calls Try.prog 15 #[.pointer (some ⟨gm, 0, none⟩), .agg (opC o).toArray] w fun e w' => MP B fp w gm gt ov ⟨(renF s.T (fuel s.T) o.path o.path2).2, 0, [], sta0, []⟩ ⟨s.u, s.hs, (renF s.T (fuel s.T) o.path o.path2).1⟩ e w' := by
  have HH := Hid.mk h
  obtain ⟨ok, oh, ofl, omo, on, oo, owh, op, op2, od⟩ := o
  simp only at hK hp hp2 hdt ⊢
  subst hK
  have lim := si.lim (by omega)
  have HC2 := Hid.mk (fun W (kk : Keep w W) => rename_c B gt (fuel s.T) op op2 fp s.T W (h.keep kk).tree lim (fun d _ => fuel_ok si.t d) hp hp2)
  generalize renF s.T (fuel s.T) op op2 = X at *
  obtain ⟨T', rr⟩ := X
  simp only at HC2 ⊢
  clear lim si h
  go_enter Try.func15, Try.ntmps15
  go_upto_region 1 with fail
  obtain ⟨w1, hw1⟩ : ∃ w1, w1 = (w.alloc (.cells (opC ⟨19, oh, ofl, omo, on, oo, owh, op, op2, od⟩).toArray 37)).alloc (.cells #[.int .i64 0, .int .i64 0, str [], .int .i64 0, .int .i64 0, .int .i64 0, .int .i64 0, .int .i64 0, .slice none 0 0] 34) := ⟨_, rfl⟩
  rw [← hw1]
  have TWO : Two w w1 ⟨19, oh, ofl, omo, on, oo, owh, op, op2, od⟩ := by rw [hw1]; exact Two.mk' w _
  obtain ⟨gA, hgA⟩ : ∃ g, g = w.heap.size := ⟨_, rfl⟩
  obtain ⟨gB, hgB⟩ : ∃ g, g = w.heap.size + 1 := ⟨_, rfl⟩
  have HGB : Hid (w.heap.size ≤ gB ∧ gB < w1.heap.size) := Hid.mk ⟨by omega, by rw [TWO.sz]; omega⟩
  have HAB : Hid (Arr w1 gB 34 zeroC) := Hid.mk (by rw [hgB]; exact TWO.b)
  have HAA : Hid (Arr w1 gA 37 (opC ⟨19, oh, ofl, omo, on, oo, owh, op, op2, od⟩)) := Hid.mk (by rw [hgA]; exact TWO.a)
  have K1 := TWO.k
  have HK1 := Hid.mk K1
  have HNF : Hid (¬ fpM fp gm ov gA ∧ ¬ fpM fp gm ov gB ∧ gA ≠ gB ∧ gm ≠ gB ∧ gm ≠ gA) := Hid.mk ⟨fun a => by have := HH.out.flt a; omega, fun a => by have := HH.out.flt a; omega, by omega, fun e => by have := HH.out.flt (Or.inr (Or.inl rfl) : fpM fp gm ov gm); omega, fun e => by have := HH.out.flt (Or.inr (Or.inl rfl) : fpM fp gm ov gm); omega⟩
  rw [← hgB, ← hgA]
  clear hw1 TWO hgA hgB
  have a0 := HAA.out.cell 0
  have a1 := HAA.out.cell 1
  have a2 := HAA.out.cell 2
  have a3 := HAA.out.cell 3
  have a4 := HAA.out.cell 4
  have a5 := HAA.out.cell 5
  have a6 := HAA.out.cell 6
  have a7 := HAA.out.cell 7
  have a8 := HAA.out.cell 8
  have a9 := HAA.out.cell 9
  simp only [opC, List.getElem?_cons_zero, List.getElem?_cons_succ] at a0 a1 a2 a3 a4 a5 a6 a7 a8 a9
  obtain ⟨x0, x1⟩ := (HH.out.keep K1).cells
  go_upto_region 66 with fail
  have HS : Hid (∀ (W : World) (i : Nat) (v : Value), (W.cell? ⟨gm, 0, none⟩ = some (.pointer (some ⟨gt, 0, none⟩)) ∧ W.cell? ⟨gA, 7, none⟩ = some (str op) ∧ W.cell? ⟨gA, 8, none⟩ = some (str op2)) → ((fun W : World => W.cell? ⟨gm, 0, none⟩ = some (.pointer (some ⟨gt, 0, none⟩)) ∧ W.cell? ⟨gA, 7, none⟩ = some (str op) ∧ W.cell? ⟨gA, 8, none⟩ = some (str op2)) (W.setCell ⟨gB, i, none⟩ v))) := Hid.mk (fun W i v hc => ⟨(cell_other HNF.out.2.2.2.1 v).trans hc.1, (cell_other HNF.out.2.2.1 v).trans hc.2.1, (cell_other HNF.out.2.2.1 v).trans hc.2.2⟩)
  have HSK : Hid (∀ W : World, Keep w1 W → (W.cell? ⟨gm, 0, none⟩ = some (.pointer (some ⟨gt, 0, none⟩)) ∧ W.cell? ⟨gA, 7, none⟩ = some (str op) ∧ W.cell? ⟨gA, 8, none⟩ = some (str op2))) := Hid.mk (fun W kk => ⟨kk.cell x0, kk.cell a7, kk.cell a8⟩)
  have HAAW := Hid.mk (HAA.out.keep (Keep.refl w1))
  have HABW := Hid.mk (HAB.out.keep (Keep.refl w1))
  have HMW := Hid.mk (HH.out.keep (HK1.out.trans (Keep.refl w1)))
  have HKW := Hid.mk (Keep.refl w1)
  go_region_held3 (fun W : World => W.cell? ⟨gm, 0, none⟩ = some (.pointer (some ⟨gt, 0, none⟩)) ∧ W.cell? ⟨gA, 7, none⟩ = some (str op) ∧ W.cell? ⟨gA, 8, none⟩ = some (str op2))
    (with_reducible first | assumption | exact ⟨x0, a7, a8⟩ | exact HSK.out _ (Keep.refl w1).drew | exact S2 | exact S3 | exact HS.out _ _ _ S3 | exact HS.out _ _ _ (HS.out _ _ _ (HS.out _ _ _ (HS.out _ _ _ (HS.out _ _ _ (HS.out _ _ _ (HS.out _ _ _ (HS.out _ _ _ (HS.out _ _ _ S3)))))))))
    (first
      | (go_at_call 69; refine (HC2.out _ (HK1.out.trans (Keep.refl w1).drew)).mono ?_; rintro x y ⟨fp1, rfl, t1, s1⟩
         obtain ⟨M1, s2⟩ := (HMW.out.keep (Keep.refl w1).drew).step t1 s1
         have AA1 := s2.1.arr HNF.out.1 (HAAW.out.keep (Keep.refl w1).drew)
         have AB1 := s2.1.arr HNF.out.2.1 (HABW.out.keep (Keep.refl w1).drew)
         have S2 : (fun W : World => W.cell? ⟨gm, 0, none⟩ = some (.pointer (some ⟨gt, 0, none⟩)) ∧ W.cell? ⟨gA, 7, none⟩ = some (str op) ∧ W.cell? ⟨gA, 8, none⟩ = some (str op2)) y := ⟨M1.cells.1, AA1.cell 7, AA1.cell 8⟩
         have HM1 := Hid.mk M1
         have HS1 := Hid.mk ((Stp.keep (HKW.out.trans (Keep.refl w1).drew)).trans s2)
         have HAB1 := Hid.mk AB1
         clear M1 s1 s2 t1 AA1 AB1)
      | (go_at_call 56; refine (refuse_c rr _).mono ?_; rintro x y2 ⟨rfl, q2⟩
         have S3 : (fun W : World => W.cell? ⟨gm, 0, none⟩ = some (.pointer (some ⟨gt, 0, none⟩)) ∧ W.cell? ⟨gA, 7, none⟩ = some (str op) ∧ W.cell? ⟨gA, 8, none⟩ = some (str op2)) y2 := ⟨q2.cell S2.1, q2.cell S2.2.1, q2.cell S2.2.2⟩
         obtain ⟨b0, b1, b2, b3, b4, b5, b6, b7, b8, z0, z1, z2, z3, z4, z5, z6, z7, z8⟩ := z9 (HAB1.out.keep q2)
         have HE := Hid.mk (MP.fin (a := ⟨rr, 0, [], sta0, []⟩) (v := .slice none 0 0) HH.out HK1.out (HM1.out.keep q2) (HS1.out.trans (Stp.keep q2)) HGB.out (OwnS.nil _ _ _ _ _) (fr9 (.int .i64 rr) (.int .i64 0) (str []) (.int .i64 0) (.int .i64 0) (.int .i64 0) (.int .i64 0) (.int .i64 0) (.slice none 0 0)))
         have HAZ := Hid.mk (arr9 (HAB1.out.keep q2) (.int .i64 rr) (.int .i64 0) (str []) (.int .i64 0) (.int .i64 0) (.int .i64 0) (.int .i64 0) (.int .i64 0) (.slice none 0 0))
         clear q2))
  go_wp2_with fail
  refine bodyPost_ret (v := .agg (ansC ⟨rr, 0, [], sta0, []⟩ (.slice none 0 0)).toArray) (results_cell_row1 rfl _ _ gB 34 _ (0, 0) _ rfl HAZ.out Try.underlying34 rfl s34) rfl ?_
  exact HE.out
set_option maxRecDepth 8000 in
set_option maxHeartbeats 8000000 in
theorem mp20 {B gm gt k : Nat} {fp : Nat → Prop} {w : World} {s : Stt} {O : List Nat} {ov : Value} (o : OpV) (hK : o.kind = 20) (h : MW B fp w gm gt s O ov) (si : SI k s.u s.hs s.T) (hk : k ≤ 70000) (hp : o.path.length ≤ 100000) (hp2 : o.path2.length ≤ 100000) (hdt : o.data.length ≤ 100000)  :
    Calls Try.prog 15 #[.pointer (some ⟨gm, 0, none⟩), .agg (opC o).toArray] w fun e w' => MP B fp w gm gt ov ⟨(linkT s.T o.path o.path2).2, 0, [], sta0, []⟩ ⟨s.u, s.hs, (linkT s.T o.path o.path2).1⟩ e w' := by
  have HH := Hid.mk h
  obtain ⟨ok, oh, ofl, omo, on, oo, owh, op, op2, od⟩ := o
  simp only at hK hp hp2 hdt ⊢
  subst hK
  have lim := si.lim (by omega)
  have HC2 := Hid.mk (fun W (kk : Keep w W) => link_c B gt op op2 fp s.T W (h.keep kk).tree lim hp hp2)
  generalize linkT s.T op op2 = X at *
  obtain ⟨T', rr⟩ := X
  simp only at HC2 ⊢
  clear lim si h
  go_enter Try.func15, Try.ntmps15
  go_upto_region 1 with fail
  obtain ⟨w1, hw1⟩ : ∃ w1, w1 = (w.alloc (.cells (opC ⟨20, oh, ofl, omo, on, oo, owh, op, op2, od⟩).toArray 37)).alloc (.cells #[.int .i64 0, .int .i64 0, str [], .int .i64 0, .int .i64 0, .int .i64 0, .int .i64 0, .int .i64 0, .slice none 0 0] 34) := ⟨_, rfl⟩
  rw [← hw1]
  have TWO : Two w w1 ⟨20, oh, ofl, omo, on, oo, owh, op, op2, od⟩ := by rw [hw1]; exact Two.mk' w _
  obtain ⟨gA, hgA⟩ : ∃ g, g = w.heap.size := ⟨_, rfl⟩
  obtain ⟨gB, hgB⟩ : ∃ g, g = w.heap.size + 1 := ⟨_, rfl⟩
  have HGB : Hid (w.heap.size ≤ gB ∧ gB < w1.heap.size) := Hid.mk ⟨by omega, by rw [TWO.sz]; omega⟩
  have HAB : Hid (Arr w1 gB 34 zeroC) := Hid.mk (by rw [hgB]; exact TWO.b)
  have HAA : Hid (Arr w1 gA 37 (opC ⟨20, oh, ofl, omo, on, oo, owh, op, op2, od⟩)) := Hid.mk (by rw [hgA]; exact TWO.a)
  have K1 := TWO.k
  have HK1 := Hid.mk K1
  have HNF : Hid (¬ fpM fp gm ov gA ∧ ¬ fpM fp gm ov gB ∧ gA ≠ gB ∧ gm ≠ gB ∧ gm ≠ gA) := Hid.mk ⟨fun a => by have := HH.out.flt a; omega, fun a => by have := HH.out.flt a; omega, by omega, fun e => by have := HH.out.flt (Or.inr (Or.inl rfl) : fpM fp gm ov gm); omega, fun e => by have := HH.out.flt (Or.inr (Or.inl rfl) : fpM fp gm ov gm); omega⟩
  rw [← hgB, ← hgA]
  clear hw1 TWO hgA hgB
  have a0 := HAA.out.cell 0
  have a1 := HAA.out.cell 1
  have a2 := HAA.out.cell 2
  have a3 := HAA.out.cell 3
  have a4 := HAA.out.cell 4
  have a5 := HAA.out.cell 5
  have a6 := HAA.out.cell 6
  have a7 := HAA.out.cell 7
  have a8 := HAA.out.cell 8
  have a9 := HAA.out.cell 9
  simp only [opC, List.getElem?_cons_zero, List.getElem?_cons_succ] at a0 a1 a2 a3 a4 a5 a6 a7 a8 a9
  obtain ⟨x0, x1⟩ := (HH.out.keep K1).cells
  go_upto_region 68 with fail
  have HS : Hid (∀ (W : World) (i : Nat) (v : Value), (W.cell? ⟨gm, 0, none⟩ = some (.pointer (some ⟨gt, 0, none⟩)) ∧ W.cell? ⟨gA, 7, none⟩ = some (str op) ∧ W.cell? ⟨gA, 8, none⟩ = some (str op2)) → ((fun W : World => W.cell? ⟨gm, 0, none⟩ = some (.pointer (some ⟨gt, 0, none⟩)) ∧ W.cell? ⟨gA, 7, none⟩ = some (str op) ∧ W.cell? ⟨gA, 8, none⟩ = some (str op2)) (W.setCell ⟨gB, i, none⟩ v))) := Hid.mk (fun W i v hc => ⟨(cell_other HNF.out.2.2.2.1 v).trans hc.1, (cell_other HNF.out.2.2.1 v).trans hc.2.1, (cell_other HNF.out.2.2.1 v).trans hc.2.2⟩)
  have HSK : Hid (∀ W : World, Keep w1 W → (W.cell? ⟨gm, 0, none⟩ = some (.pointer (some ⟨gt, 0, none⟩)) ∧ W.cell? ⟨gA, 7, none⟩ = some (str op) ∧ W.cell? ⟨gA, 8, none⟩ = some (str op2))) := Hid.mk (fun W kk => ⟨kk.cell x0, kk.cell a7, kk.cell a8⟩)
  have HAAW := Hid.mk (HAA.out.keep (Keep.refl w1))
  have HABW := Hid.mk (HAB.out.keep (Keep.refl w1))
  have HMW := Hid.mk (HH.out.keep (HK1.out.trans (Keep.refl w1)))
  have HKW := Hid.mk (Keep.refl w1)
  go_region_held3 (fun W : World => W.cell? ⟨gm, 0, none⟩ = some (.pointer (some ⟨gt, 0, none⟩)) ∧ W.cell? ⟨gA, 7, none⟩ = some (str op) ∧ W.cell? ⟨gA, 8, none⟩ = some (str op2))
    (with_reducible first | assumption | exact ⟨x0, a7, a8⟩ | exact HSK.out _ (Keep.refl w1).drew | exact S2 | exact S3 | exact HS.out _ _ _ S3 | exact HS.out _ _ _ (HS.out _ _ _ (HS.out _ _ _ (HS.out _ _ _ (HS.out _ _ _ (HS.out _ _ _ (HS.out _ _ _ (HS.out _ _ _ (HS.out _ _ _ S3)))))))))
    (first
      | (go_at_call 70; refine (HC2.out _ (HK1.out.trans (Keep.refl w1).drew)).mono ?_; rintro x y ⟨fp1, rfl, t1, s1⟩
         obtain ⟨M1, s2⟩ := (HMW.out.keep (Keep.refl w1).drew).step t1 s1
         have AA1 := s2.1.arr HNF.out.1 (HAAW.out.keep (Keep.refl w1).drew)
         have AB1 := s2.1.arr HNF.out.2.1 (HABW.out.keep (Keep.refl w1).drew)
         have S2 : (fun W : World => W.cell? ⟨gm, 0, none⟩ = some (.pointer (some ⟨gt, 0, none⟩)) ∧ W.cell? ⟨gA, 7, none⟩ = some (str op) ∧ W.cell? ⟨gA, 8, none⟩ = some (str op2)) y := ⟨M1.cells.1, AA1.cell 7, AA1.cell 8⟩
         have HM1 := Hid.mk M1
         have HS1 := Hid.mk ((Stp.keep (HKW.out.trans (Keep.refl w1).drew)).trans s2)
         have HAB1 := Hid.mk AB1
         clear M1 s1 s2 t1 AA1 AB1)
      | (go_at_call 56; refine (refuse_c rr _).mono ?_; rintro x y2 ⟨rfl, q2⟩
         have S3 : (fun W : World => W.cell? ⟨gm, 0, none⟩ = some (.pointer (some ⟨gt, 0, none⟩)) ∧ W.cell? ⟨gA, 7, none⟩ = some (str op) ∧ W.cell? ⟨gA, 8, none⟩ = some (str op2)) y2 := ⟨q2.cell S2.1, q2.cell S2.2.1, q2.cell S2.2.2⟩
         obtain ⟨b0, b1, b2, b3, b4, b5, b6, b7, b8, z0, z1, z2, z3, z4, z5, z6, z7, z8⟩ := z9 (HAB1.out.keep q2)
         have HE := Hid.mk (MP.fin (a := ⟨rr, 0, [], sta0, []⟩) (v := .slice none 0 0) HH.out HK1.out (HM1.out.keep q2) (HS1.out.trans (Stp.keep q2)) HGB.out (OwnS.nil _ _ _ _ _) (fr9 (.int .i64 rr) (.int .i64 0) (str []) (.int .i64 0) (.int .i64 0) (.int .i64 0) (.int .i64 0) (.int .i64 0) (.slice none 0 0)))
         have HAZ := Hid.mk (arr9 (HAB1.out.keep q2) (.int .i64 rr) (.int .i64 0) (str []) (.int .i64 0) (.int .i64 0) (.int .i64 0) (.int .i64 0) (.int .i64 0) (.slice none 0 0))
         clear q2))
  go_wp2_with fail
  refine bodyPost_ret (v := .agg (ansC ⟨rr, 0, [], sta0, []⟩ (.slice none 0 0)).toArray) (results_cell_row1 rfl _ _ gB 34 _ (0, 0) _ rfl HAZ.out Try.underlying34 rfl s34) rfl ?_
  exact HE.out
set_option maxRecDepth 8000 in
set_option maxHeartbeats 8000000 in
theorem mp21 {B gm gt k : Nat} {fp : Nat → Prop} {w : World} {s : Stt} {O : List Nat} {ov : Value} (o : OpV) (hK : o.kind = 21) (h : MW B fp w gm gt s O ov) (si : SI k s.u s.hs s.T) (hk : k ≤ 70000) (hp : o.path.length ≤ 100000) (hp2 : o.path2.length ≤ 100000) (hdt : o.data.length ≤ 100000)  :
    Calls Try.prog 15 #[.pointer (some ⟨gm, 0, none⟩), .agg (opC o).toArray] w fun e w' => MP B fp w gm gt ov ⟨(symT s.T o.path o.path2).2, 0, [], sta0, []⟩ ⟨s.u, s.hs, (symT s.T o.path o.path2).1⟩ e w' := by
  have HH := Hid.mk h
  obtain ⟨ok, oh, ofl, omo, on, oo, owh, op, op2, od⟩ := o
  simp only at hK hp hp2 hdt ⊢
  subst hK
  have lim := si.lim (by omega)
  have HC2 := Hid.mk (fun W (kk : Keep w W) => symlink_c B gt op op2 fp s.T W (h.keep kk).tree lim (by have := si.t.ub; omega) hp2 hp)
  generalize symT s.T op op2 = X at *
  obtain ⟨T', rr⟩ := X
  simp only at HC2 ⊢
  clear lim si h
  go_enter Try.func15, Try.ntmps15
  go_upto_region 1 with fail
  obtain ⟨w1, hw1⟩ : ∃ w1, w1 = (w.alloc (.cells (opC ⟨21, oh, ofl, omo, on, oo, owh, op, op2, od⟩).toArray 37)).alloc (.cells #[.int .i64 0, .int .i64 0, str [], .int .i64 0, .int .i64 0, .int .i64 0, .int .i64 0, .int .i64 0, .slice none 0 0] 34) := ⟨_, rfl⟩
  rw [← hw1]
  have TWO : Two w w1 ⟨21, oh, ofl, omo, on, oo, owh, op, op2, od⟩ := by rw [hw1]; exact Two.mk' w _
  obtain ⟨gA, hgA⟩ : ∃ g, g = w.heap.size := ⟨_, rfl⟩
  obtain ⟨gB, hgB⟩ : ∃ g, g = w.heap.size + 1 := ⟨_, rfl⟩
  have HGB : Hid (w.heap.size ≤ gB ∧ gB < w1.heap.size) := Hid.mk ⟨by omega, by rw [TWO.sz]; omega⟩
  have HAB : Hid (Arr w1 gB 34 zeroC) := Hid.mk (by rw [hgB]; exact TWO.b)
  have HAA : Hid (Arr w1 gA 37 (opC ⟨21, oh, ofl, omo, on, oo, owh, op, op2, od⟩)) := Hid.mk (by rw [hgA]; exact TWO.a)
  have K1 := TWO.k
  have HK1 := Hid.mk K1
  have HNF : Hid (¬ fpM fp gm ov gA ∧ ¬ fpM fp gm ov gB ∧ gA ≠ gB ∧ gm ≠ gB ∧ gm ≠ gA) := Hid.mk ⟨fun a => by have := HH.out.flt a; omega, fun a => by have := HH.out.flt a; omega, by omega, fun e => by have := HH.out.flt (Or.inr (Or.inl rfl) : fpM fp gm ov gm); omega, fun e => by have := HH.out.flt (Or.inr (Or.inl rfl) : fpM fp gm ov gm); omega⟩
  rw [← hgB, ← hgA]
  clear hw1 TWO hgA hgB
  have a0 := HAA.out.cell 0
  have a1 := HAA.out.cell 1
  have a2 := HAA.out.cell 2
  have a3 := HAA.out.cell 3
  have a4 := HAA.out.cell 4
  have a5 := HAA.out.cell 5
  have a6 := HAA.out.cell 6
  have a7 := HAA.out.cell 7
  have a8 := HAA.out.cell 8
  have a9 := HAA.out.cell 9
  simp only [opC, List.getElem?_cons_zero, List.getElem?_cons_succ] at a0 a1 a2 a3 a4 a5 a6 a7 a8 a9
  obtain ⟨x0, x1⟩ := (HH.out.keep K1).cells
  go_upto_region 70 with fail
  have HS : Hid (∀ (W : World) (i : Nat) (v : Value), (W.cell? ⟨gm, 0, none⟩ = some (.pointer (some ⟨gt, 0, none⟩)) ∧ W.cell? ⟨gA, 7, none⟩ = some (str op) ∧ W.cell? ⟨gA, 8, none⟩ = some (str op2)) → ((fun W : World => W.cell? ⟨gm, 0, none⟩ = some (.pointer (some ⟨gt, 0, none⟩)) ∧ W.cell? ⟨gA, 7, none⟩ = some (str op) ∧ W.cell? ⟨gA, 8, none⟩ = some (str op2)) (W.setCell ⟨gB, i, none⟩ v))) := Hid.mk (fun W i v hc => ⟨(cell_other HNF.out.2.2.2.1 v).trans hc.1, (cell_other HNF.out.2.2.1 v).trans hc.2.1, (cell_other HNF.out.2.2.1 v).trans hc.2.2⟩)
  have HSK : Hid (∀ W : World, Keep w1 W → (W.cell? ⟨gm, 0, none⟩ = some (.pointer (some ⟨gt, 0, none⟩)) ∧ W.cell? ⟨gA, 7, none⟩ = some (str op) ∧ W.cell? ⟨gA, 8, none⟩ = some (str op2))) := Hid.mk (fun W kk => ⟨kk.cell x0, kk.cell a7, kk.cell a8⟩)
  have HAAW := Hid.mk (HAA.out.keep (Keep.refl w1))
  have HABW := Hid.mk (HAB.out.keep (Keep.refl w1))
  have HMW := Hid.mk (HH.out.keep (HK1.out.trans (Keep.refl w1)))
  have HKW := Hid.mk (Keep.refl w1)
  go_region_held3 (fun W : World => W.cell? ⟨gm, 0, none⟩ = some (.pointer (some ⟨gt, 0, none⟩)) ∧ W.cell? ⟨gA, 7, none⟩ = some (str op) ∧ W.cell? ⟨gA, 8, none⟩ = some (str op2))
    (with_reducible first | assumption | exact ⟨x0, a7, a8⟩ | exact HSK.out _ (Keep.refl w1).drew | exact S2 | exact S3 | exact HS.out _ _ _ S3 | exact HS.out _ _ _ (HS.out _ _ _ (HS.out _ _ _ (HS.out _ _ _ (HS.out _ _ _ (HS.out _ _ _ (HS.out _ _ _ (HS.out _ _ _ (HS.out _ _ _ S3)))))))))
    (first
      | (go_at_call 71; refine (HC2.out _ (HK1.out.trans (Keep.refl w1).drew)).mono ?_; rintro x y ⟨fp1, rfl, t1, s1⟩
         obtain ⟨M1, s2⟩ := (HMW.out.keep (Keep.refl w1).drew).step t1 s1
         have AA1 := s2.1.arr HNF.out.1 (HAAW.out.keep (Keep.refl w1).drew)
         have AB1 := s2.1.arr HNF.out.2.1 (HABW.out.keep (Keep.refl w1).drew)
         have S2 : (fun W : World => W.cell? ⟨gm, 0, none⟩ = some (.pointer (some ⟨gt, 0, none⟩)) ∧ W.cell? ⟨gA, 7, none⟩ = some (str op) ∧ W.cell? ⟨gA, 8, none⟩ = some (str op2)) y := ⟨M1.cells.1, AA1.cell 7, AA1.cell 8⟩
         have HM1 := Hid.mk M1
         have HS1 := Hid.mk ((Stp.keep (HKW.out.trans (Keep.refl w1).drew)).trans s2)
         have HAB1 := Hid.mk AB1
         clear M1 s1 s2 t1 AA1 AB1)
      | (go_at_call 56; refine (refuse_c rr _).mono ?_; rintro x y2 ⟨rfl, q2⟩
         have S3 : (fun W : World => W.cell? ⟨gm, 0, none⟩ = some (.pointer (some ⟨gt, 0, none⟩)) ∧ W.cell? ⟨gA, 7, none⟩ = some (str op) ∧ W.cell? ⟨gA, 8, none⟩ = some (str op2)) y2 := ⟨q2.cell S2.1, q2.cell S2.2.1, q2.cell S2.2.2⟩
         obtain ⟨b0, b1, b2, b3, b4, b5, b6, b7, b8, z0, z1, z2, z3, z4, z5, z6, z7, z8⟩ := z9 (HAB1.out.keep q2)
         have HE := Hid.mk (MP.fin (a := ⟨rr, 0, [], sta0, []⟩) (v := .slice none 0 0) HH.out HK1.out (HM1.out.keep q2) (HS1.out.trans (Stp.keep q2)) HGB.out (OwnS.nil _ _ _ _ _) (fr9 (.int .i64 rr) (.int .i64 0) (str []) (.int .i64 0) (.int .i64 0) (.int .i64 0) (.int .i64 0) (.int .i64 0) (.slice none 0 0)))
         have HAZ := Hid.mk (arr9 (HAB1.out.keep q2) (.int .i64 rr) (.int .i64 0) (str []) (.int .i64 0) (.int .i64 0) (.int .i64 0) (.int .i64 0) (.int .i64 0) (.slice none 0 0))
         clear q2))
  go_wp2_with fail
  refine bodyPost_ret (v := .agg (ansC ⟨rr, 0, [], sta0, []⟩ (.slice none 0 0)).toArray) (results_cell_row1 rfl _ _ gB 34 _ (0, 0) _ rfl HAZ.out Try.underlying34 rfl s34) rfl ?_
  exact HE.out
set_option maxRecDepth 8000 in
set_option maxHeartbeats 8000000 in
theorem mp16 {B gm gt k : Nat} {fp : Nat → Prop} {w : World} {s : Stt} {O : List Nat} {ov : Value} (o : OpV) (hK : o.kind = 16) (h : MW B fp w gm gt s O ov) (si : SI k s.u s.hs s.T) (hk : k ≤ 70000) (hp : o.path.length ≤ 100000) (hp2 : o.path2.length ≤ 100000) (hdt : o.data.length ≤ 100000) (hmr : -9223372036854775808 ≤ o.mode ∧ o.mode ≤ 9223372036854775807) :
    Calls Try.prog 15 #[.pointer (some ⟨gm, 0, none⟩), .agg (opC o).toArray] w fun e w' => MP B fp w gm gt ov ⟨(mkdT s.T o.path o.mode).2, 0, [], sta0, []⟩ ⟨s.u, s.hs, (mkdT s.T o.path o.mode).1⟩ e w' := by
  have HH := Hid.mk h
  obtain ⟨ok, oh, ofl, omo, on, oo, owh, op, op2, od⟩ := o
  simp only at hK hp hp2 hdt ⊢
  simp only at hmr
  subst hK
  obtain ⟨R, hR⟩ : ∃ R, R = mkdT s.T op omo := ⟨_, rfl⟩
  rw [← hR]
  unfold mkdT at hR
  rw [vm_md hmr.1 hmr.2] at hR
  have HMD := Hid.mk (fun W => modeOK_c omo W)
  have lim := si.lim (by omega)
  have HC2 := Hid.mk (fun W (kk : Keep w W) => mkdir_c B gt omo op fp s.T W (h.keep kk).tree lim (by have := si.t.ub; omega) hp)
  generalize makeT s.T op 2 omo [] = X at *
  obtain ⟨T', n', rr⟩ := X
  simp only at HC2 hR
  clear lim si h
  cases hv : mdB omo with
  | false =>
    rw [if_neg (by rw [hv]; decide)] at hR
    have HV := Hid.mk hR
    rw [hv] at HMD
    clear hR hv
    go_enter Try.func15, Try.ntmps15
    go_upto_region 1 with fail
    obtain ⟨w1, hw1⟩ : ∃ w1, w1 = (w.alloc (.cells (opC ⟨16, oh, ofl, omo, on, oo, owh, op, op2, od⟩).toArray 37)).alloc (.cells #[.int .i64 0, .int .i64 0, str [], .int .i64 0, .int .i64 0, .int .i64 0, .int .i64 0, .int .i64 0, .slice none 0 0] 34) := ⟨_, rfl⟩
    rw [← hw1]
    have TWO : Two w w1 ⟨16, oh, ofl, omo, on, oo, owh, op, op2, od⟩ := by rw [hw1]; exact Two.mk' w _
    obtain ⟨gA, hgA⟩ : ∃ g, g = w.heap.size := ⟨_, rfl⟩
    obtain ⟨gB, hgB⟩ : ∃ g, g = w.heap.size + 1 := ⟨_, rfl⟩
    have HGB : Hid (w.heap.size ≤ gB ∧ gB < w1.heap.size) := Hid.mk ⟨by omega, by rw [TWO.sz]; omega⟩
    have HAB : Hid (Arr w1 gB 34 zeroC) := Hid.mk (by rw [hgB]; exact TWO.b)
    have HAA : Hid (Arr w1 gA 37 (opC ⟨16, oh, ofl, omo, on, oo, owh, op, op2, od⟩)) := Hid.mk (by rw [hgA]; exact TWO.a)
    have K1 := TWO.k
    have HK1 := Hid.mk K1
    have HNF : Hid (¬ fpM fp gm ov gA ∧ ¬ fpM fp gm ov gB ∧ gA ≠ gB ∧ gm ≠ gB ∧ gm ≠ gA) := Hid.mk ⟨fun a => by have := HH.out.flt a; omega, fun a => by have := HH.out.flt a; omega, by omega, fun e => by have := HH.out.flt (Or.inr (Or.inl rfl) : fpM fp gm ov gm); omega, fun e => by have := HH.out.flt (Or.inr (Or.inl rfl) : fpM fp gm ov gm); omega⟩
    rw [← hgB, ← hgA]
    clear hw1 TWO hgA hgB
    have a0 := HAA.out.cell 0
    have a1 := HAA.out.cell 1
    have a2 := HAA.out.cell 2
    have a3 := HAA.out.cell 3
    have a4 := HAA.out.cell 4
    have a5 := HAA.out.cell 5
    have a6 := HAA.out.cell 6
    have a7 := HAA.out.cell 7
    have a8 := HAA.out.cell 8
    have a9 := HAA.out.cell 9
    simp only [opC, List.getElem?_cons_zero, List.getElem?_cons_succ] at a0 a1 a2 a3 a4 a5 a6 a7 a8 a9
    obtain ⟨x0, x1⟩ := (HH.out.keep K1).cells
    go_wp2_with fail
    refine (HMD.out _).mono ?_
    rintro e y1 ⟨rfl, hy1⟩
    subst hy1
    go_wp2_with fail
    refine (refuse_c 2 _).mono ?_
    rintro e y2 ⟨rfl, q2⟩
    obtain ⟨b0, b1, b2, b3, b4, b5, b6, b7, b8, z0, z1, z2, z3, z4, z5, z6, z7, z8⟩ := z9 (HAB.out.keep ((Keep.refl y1).trans q2))
    have HE := Hid.mk (MP.fin (a := ⟨2, 0, [], sta0, []⟩) (v := (.slice none 0 0)) HH.out HK1.out (HH.out.keep (HK1.out.trans ((Keep.refl y1).trans q2))) (Stp.keep ((Keep.refl y1).trans q2)) HGB.out (OwnS.nil _ _ _ _ _) (fr9 (.int .i64 2) (.int .i64 0) (str []) (.int .i64 0) (.int .i64 0) (.int .i64 0) (.int .i64 0) (.int .i64 0) (.slice none 0 0)))
    have HAZ := Hid.mk (arr9 (HAB.out.keep ((Keep.refl y1).trans q2)) (.int .i64 2) (.int .i64 0) (str []) (.int .i64 0) (.int .i64 0) (.int .i64 0) (.int .i64 0) (.int .i64 0) (.slice none 0 0))
    clear q2
    go_wp2_with fail
    refine bodyPost_ret (v := .agg (ansC ⟨2, 0, [], sta0, []⟩ (.slice none 0 0)).toArray) (results_cell_row1 rfl _ _ gB 34 _ (0, 0) _ rfl HAZ.out Try.underlying34 rfl s34) rfl ?_
    rw [HV.out]
    exact HE.out
  | true =>
    rw [if_pos hv] at hR
    have HV := Hid.mk hR
    rw [hv] at HMD
    clear hR hv
    go_enter Try.func15, Try.ntmps15
    go_upto_region 1 with fail
    obtain ⟨w1, hw1⟩ : ∃ w1, w1 = (w.alloc (.cells (opC ⟨16, oh, ofl, omo, on, oo, owh, op, op2, od⟩).toArray 37)).alloc (.cells #[.int .i64 0, .int .i64 0, str [], .int .i64 0, .int .i64 0, .int .i64 0, .int .i64 0, .int .i64 0, .slice none 0 0] 34) := ⟨_, rfl⟩
    rw [← hw1]
    have TWO : Two w w1 ⟨16, oh, ofl, omo, on, oo, owh, op, op2, od⟩ := by rw [hw1]; exact Two.mk' w _
    obtain ⟨gA, hgA⟩ : ∃ g, g = w.heap.size := ⟨_, rfl⟩
    obtain ⟨gB, hgB⟩ : ∃ g, g = w.heap.size + 1 := ⟨_, rfl⟩
    have HGB : Hid (w.heap.size ≤ gB ∧ gB < w1.heap.size) := Hid.mk ⟨by omega, by rw [TWO.sz]; omega⟩
    have HAB : Hid (Arr w1 gB 34 zeroC) := Hid.mk (by rw [hgB]; exact TWO.b)
    have HAA : Hid (Arr w1 gA 37 (opC ⟨16, oh, ofl, omo, on, oo, owh, op, op2, od⟩)) := Hid.mk (by rw [hgA]; exact TWO.a)
    have K1 := TWO.k
    have HK1 := Hid.mk K1
    have HNF : Hid (¬ fpM fp gm ov gA ∧ ¬ fpM fp gm ov gB ∧ gA ≠ gB ∧ gm ≠ gB ∧ gm ≠ gA) := Hid.mk ⟨fun a => by have := HH.out.flt a; omega, fun a => by have := HH.out.flt a; omega, by omega, fun e => by have := HH.out.flt (Or.inr (Or.inl rfl) : fpM fp gm ov gm); omega, fun e => by have := HH.out.flt (Or.inr (Or.inl rfl) : fpM fp gm ov gm); omega⟩
    rw [← hgB, ← hgA]
    clear hw1 TWO hgA hgB
    have a0 := HAA.out.cell 0
    have a1 := HAA.out.cell 1
    have a2 := HAA.out.cell 2
    have a3 := HAA.out.cell 3
    have a4 := HAA.out.cell 4
    have a5 := HAA.out.cell 5
    have a6 := HAA.out.cell 6
    have a7 := HAA.out.cell 7
    have a8 := HAA.out.cell 8
    have a9 := HAA.out.cell 9
    simp only [opC, List.getElem?_cons_zero, List.getElem?_cons_succ] at a0 a1 a2 a3 a4 a5 a6 a7 a8 a9
    obtain ⟨x0, x1⟩ := (HH.out.keep K1).cells
    go_wp2_with fail
    refine (HMD.out _).mono ?_
    rintro e y1 ⟨rfl, hy1⟩
    subst hy1
    go_upto_region 60 with fail
    have HS : Hid (∀ (W : World) (i : Nat) (v : Value), (W.cell? ⟨gm, 0, none⟩ = some (.pointer (some ⟨gt, 0, none⟩)) ∧ W.cell? ⟨gA, 7, none⟩ = some (str op) ∧ W.cell? ⟨gA, 3, none⟩ = some (.int .i64 omo)) → ((fun W : World => W.cell? ⟨gm, 0, none⟩ = some (.pointer (some ⟨gt, 0, none⟩)) ∧ W.cell? ⟨gA, 7, none⟩ = some (str op) ∧ W.cell? ⟨gA, 3, none⟩ = some (.int .i64 omo)) (W.setCell ⟨gB, i, none⟩ v))) := Hid.mk (fun W i v hc => ⟨(cell_other HNF.out.2.2.2.1 v).trans hc.1, (cell_other HNF.out.2.2.1 v).trans hc.2.1, (cell_other HNF.out.2.2.1 v).trans hc.2.2⟩)
    have HSK : Hid (∀ W : World, Keep y1 W → (W.cell? ⟨gm, 0, none⟩ = some (.pointer (some ⟨gt, 0, none⟩)) ∧ W.cell? ⟨gA, 7, none⟩ = some (str op) ∧ W.cell? ⟨gA, 3, none⟩ = some (.int .i64 omo))) := Hid.mk (fun W kk => ⟨kk.cell x0, kk.cell a7, kk.cell a3⟩)
    have HAAW := Hid.mk (HAA.out.keep (Keep.refl y1))
    have HABW := Hid.mk (HAB.out.keep (Keep.refl y1))
    have HMW := Hid.mk (HH.out.keep (HK1.out.trans (Keep.refl y1)))
    have HKW := Hid.mk (Keep.refl y1)
    go_region_held3 (fun W : World => W.cell? ⟨gm, 0, none⟩ = some (.pointer (some ⟨gt, 0, none⟩)) ∧ W.cell? ⟨gA, 7, none⟩ = some (str op) ∧ W.cell? ⟨gA, 3, none⟩ = some (.int .i64 omo))
      (with_reducible first | assumption | exact ⟨x0, a7, a3⟩ | exact HSK.out _ (Keep.refl y1).drew | exact S2 | exact S3 | exact HS.out _ _ _ S3 | exact HS.out _ _ _ (HS.out _ _ _ (HS.out _ _ _ (HS.out _ _ _ (HS.out _ _ _ (HS.out _ _ _ (HS.out _ _ _ (HS.out _ _ _ (HS.out _ _ _ S3)))))))))
      (first
        | (go_at_call 66; refine (HC2.out _ (HK1.out.trans (Keep.refl y1).drew)).mono ?_; rintro x y ⟨fp1, rfl, t1, s1⟩
           obtain ⟨M1, s2⟩ := (HMW.out.keep (Keep.refl y1).drew).step t1 s1
           have AA1 := s2.1.arr HNF.out.1 (HAAW.out.keep (Keep.refl y1).drew)
           have AB1 := s2.1.arr HNF.out.2.1 (HABW.out.keep (Keep.refl y1).drew)
           have S2 : (fun W : World => W.cell? ⟨gm, 0, none⟩ = some (.pointer (some ⟨gt, 0, none⟩)) ∧ W.cell? ⟨gA, 7, none⟩ = some (str op) ∧ W.cell? ⟨gA, 3, none⟩ = some (.int .i64 omo)) y := ⟨M1.cells.1, AA1.cell 7, AA1.cell 3⟩
           have HM1 := Hid.mk M1
           have HS1 := Hid.mk ((Stp.keep (HKW.out.trans (Keep.refl y1).drew)).trans s2)
           have HAB1 := Hid.mk AB1
           clear M1 s1 s2 t1 AA1 AB1)
        | (go_at_call 56; refine (refuse_c rr _).mono ?_; rintro x y2 ⟨rfl, q2⟩
           have S3 : (fun W : World => W.cell? ⟨gm, 0, none⟩ = some (.pointer (some ⟨gt, 0, none⟩)) ∧ W.cell? ⟨gA, 7, none⟩ = some (str op) ∧ W.cell? ⟨gA, 3, none⟩ = some (.int .i64 omo)) y2 := ⟨q2.cell S2.1, q2.cell S2.2.1, q2.cell S2.2.2⟩
           obtain ⟨b0, b1, b2, b3, b4, b5, b6, b7, b8, z0, z1, z2, z3, z4, z5, z6, z7, z8⟩ := z9 (HAB1.out.keep q2)
           have HE := Hid.mk (MP.fin (a := ⟨rr, 0, [], sta0, []⟩) (v := .slice none 0 0) HH.out HK1.out (HM1.out.keep q2) (HS1.out.trans (Stp.keep q2)) HGB.out (OwnS.nil _ _ _ _ _) (fr9 (.int .i64 rr) (.int .i64 0) (str []) (.int .i64 0) (.int .i64 0) (.int .i64 0) (.int .i64 0) (.int .i64 0) (.slice none 0 0)))
           have HAZ := Hid.mk (arr9 (HAB1.out.keep q2) (.int .i64 rr) (.int .i64 0) (str []) (.int .i64 0) (.int .i64 0) (.int .i64 0) (.int .i64 0) (.int .i64 0) (.slice none 0 0))
           clear q2))
    go_wp2_with fail
    refine bodyPost_ret (v := .agg (ansC ⟨rr, 0, [], sta0, []⟩ (.slice none 0 0)).toArray) (results_cell_row1 rfl _ _ gB 34 _ (0, 0) _ rfl HAZ.out Try.underlying34 rfl s34) rfl ?_
    rw [HV.out]
    exact HE.out
set_option maxRecDepth 8000 in
set_option maxHeartbeats 8000000 in
theorem mp0 {B gm gt k : Nat} {fp : Nat → Prop} {w : World} {s : Stt} {O : List Nat} {ov : Value} (o : OpV) (hK : o.kind < 1 ∨ 21 < o.kind) (h : MW B fp w gm gt s O ov) (si : SI k s.u s.hs s.T) (hk : k ≤ 70000) (hp : o.path.length ≤ 100000) (hp2 : o.path2.length ≤ 100000) (hdt : o.data.length ≤ 100000)  :
    Calls Try.prog 15 #[.pointer (some ⟨gm, 0, none⟩), .agg (opC o).toArray] w fun e w' => MP B fp w gm gt ov ⟨2, 0, [], sta0, []⟩ s e w' := by
  have HH := Hid.mk h
  obtain ⟨ok, oh, ofl, omo, on, oo, owh, op, op2, od⟩ := o
  simp only at hK hp hp2 hdt ⊢
  have q0 : ∀ j : Int, 1 ≤ j → j ≤ 21 → (ok == j) = false := fun j h1 h2 => by simp; omega
  have q1 : (ok == 1) = false := q0 1 (by omega) (by omega)
  have q2 : (ok == 2) = false := q0 2 (by omega) (by omega)
  have q3 : (ok == 3) = false := q0 3 (by omega) (by omega)
  have q4 : (ok == 4) = false := q0 4 (by omega) (by omega)
  have q5 : (ok == 5) = false := q0 5 (by omega) (by omega)
  have q6 : (ok == 6) = false := q0 6 (by omega) (by omega)
  have q7 : (ok == 7) = false := q0 7 (by omega) (by omega)
  have q8 : (ok == 8) = false := q0 8 (by omega) (by omega)
  have q9 : (ok == 9) = false := q0 9 (by omega) (by omega)
  have q10 : (ok == 10) = false := q0 10 (by omega) (by omega)
  have q11 : (ok == 11) = false := q0 11 (by omega) (by omega)
  have q12 : (ok == 12) = false := q0 12 (by omega) (by omega)
  have q13 : (ok == 13) = false := q0 13 (by omega) (by omega)
  have q14 : (ok == 14) = false := q0 14 (by omega) (by omega)
  have q15 : (ok == 15) = false := q0 15 (by omega) (by omega)
  have q16 : (ok == 16) = false := q0 16 (by omega) (by omega)
  have q17 : (ok == 17) = false := q0 17 (by omega) (by omega)
  have q18 : (ok == 18) = false := q0 18 (by omega) (by omega)
  have q19 : (ok == 19) = false := q0 19 (by omega) (by omega)
  have q20 : (ok == 20) = false := q0 20 (by omega) (by omega)
  have q21 : (ok == 21) = false := q0 21 (by omega) (by omega)
  clear q0 hK si h
  go_enter Try.func15, Try.ntmps15
  go_upto_region 1 with fail
  obtain ⟨w1, hw1⟩ : ∃ w1, w1 = (w.alloc (.cells (opC ⟨ok, oh, ofl, omo, on, oo, owh, op, op2, od⟩).toArray 37)).alloc (.cells #[.int .i64 0, .int .i64 0, str [], .int .i64 0, .int .i64 0, .int .i64 0, .int .i64 0, .int .i64 0, .slice none 0 0] 34) := ⟨_, rfl⟩
  rw [← hw1]
  have TWO : Two w w1 ⟨ok, oh, ofl, omo, on, oo, owh, op, op2, od⟩ := by rw [hw1]; exact Two.mk' w _
  obtain ⟨gA, hgA⟩ : ∃ g, g = w.heap.size := ⟨_, rfl⟩
  obtain ⟨gB, hgB⟩ : ∃ g, g = w.heap.size + 1 := ⟨_, rfl⟩
  have HGB : Hid (w.heap.size ≤ gB ∧ gB < w1.heap.size) := Hid.mk ⟨by omega, by rw [TWO.sz]; omega⟩
  have HAB : Hid (Arr w1 gB 34 zeroC) := Hid.mk (by rw [hgB]; exact TWO.b)
  have HAA : Hid (Arr w1 gA 37 (opC ⟨ok, oh, ofl, omo, on, oo, owh, op, op2, od⟩)) := Hid.mk (by rw [hgA]; exact TWO.a)
  have K1 := TWO.k
  have HK1 := Hid.mk K1
  have HNF : Hid (¬ fpM fp gm ov gA ∧ ¬ fpM fp gm ov gB ∧ gA ≠ gB ∧ gm ≠ gB ∧ gm ≠ gA) := Hid.mk ⟨fun a => by have := HH.out.flt a; omega, fun a => by have := HH.out.flt a; omega, by omega, fun e => by have := HH.out.flt (Or.inr (Or.inl rfl) : fpM fp gm ov gm); omega, fun e => by have := HH.out.flt (Or.inr (Or.inl rfl) : fpM fp gm ov gm); omega⟩
  rw [← hgB, ← hgA]
  clear hw1 TWO hgA hgB
  have a0 := HAA.out.cell 0
  have a1 := HAA.out.cell 1
  have a2 := HAA.out.cell 2
  have a3 := HAA.out.cell 3
  have a4 := HAA.out.cell 4
  have a5 := HAA.out.cell 5
  have a6 := HAA.out.cell 6
  have a7 := HAA.out.cell 7
  have a8 := HAA.out.cell 8
  have a9 := HAA.out.cell 9
  simp only [opC, List.getElem?_cons_zero, List.getElem?_cons_succ] at a0 a1 a2 a3 a4 a5 a6 a7 a8 a9
  obtain ⟨x0, x1⟩ := (HH.out.keep K1).cells
  go_wp2_with fail
  refine (refuse_c 2 _).mono ?_
  rintro e y2 ⟨rfl, q2⟩
  obtain ⟨b0, b1, b2, b3, b4, b5, b6, b7, b8, z0, z1, z2, z3, z4, z5, z6, z7, z8⟩ := z9 (HAB.out.keep ((Keep.refl w1).trans q2))
  have HE := Hid.mk (MP.fin (a := ⟨2, 0, [], sta0, []⟩) (v := (.slice none 0 0)) HH.out HK1.out (HH.out.keep (HK1.out.trans ((Keep.refl w1).trans q2))) (Stp.keep ((Keep.refl w1).trans q2)) HGB.out (OwnS.nil _ _ _ _ _) (fr9 (.int .i64 2) (.int .i64 0) (str []) (.int .i64 0) (.int .i64 0) (.int .i64 0) (.int .i64 0) (.int .i64 0) (.slice none 0 0)))
  have HAZ := Hid.mk (arr9 (HAB.out.keep ((Keep.refl w1).trans q2)) (.int .i64 2) (.int .i64 0) (str []) (.int .i64 0) (.int .i64 0) (.int .i64 0) (.int .i64 0) (.int .i64 0) (.slice none 0 0))
  clear q2
  go_wp2_with fail
  refine bodyPost_ret (v := .agg (ansC ⟨2, 0, [], sta0, []⟩ (.slice none 0 0)).toArray) (results_cell_row1 rfl _ _ gB 34 _ (0, 0) _ rfl HAZ.out Try.underlying34 rfl s34) rfl ?_
  exact HE.out
end Go.Proofs.Qxb6500767a
