/- unionvfslaw: play, open. -/
import Derived.Test.Qxb6500767aFq
namespace Go.Proofs.Qxb6500767a
open Go.RowKit Go.Qm
set_option linter.unusedVariables false
set_option linter.unusedSimpArgs false
attribute [local go_sem ↓] Go.wp_at_zero Go.wp_at_succ
set_option maxRecDepth 6000 in
set_option maxHeartbeats 8000000 in
theorem play1a {B gw gf gt k : Nat} {fp : Nat → Prop} {w : World} {s : Stt} (o : OpV) (hK : o.kind = 1) (h : WW B fp w gw gf gt s) (si : SI k s.u s.hs s.T) (hk : k ≤ 70000) (hp : o.path.length ≤ 100000) (hp2 : o.path2.length ≤ 100000) (hdt : o.data.length ≤ 100000) (he : (opF s.u s.hs s.T o.path o.flags o.mode).2.2.2.2 = 0) :
    Calls Try.prog 14 #[.pointer (some ⟨gw, 0, none⟩), .agg (opC o).toArray] w fun e w' => PlayP B fp w gw gf gt ⟨0, (opF s.u s.hs s.T o.path o.flags o.mode).2.2.2.1, [], sta0, []⟩ ⟨(opF s.u s.hs s.T o.path o.flags o.mode).1, (opF s.u s.hs s.T o.path o.flags o.mode).2.1, (opF s.u s.hs s.T o.path o.flags o.mode).2.2.1⟩ e w' := by
  obtain ⟨ok, oh, ofl, omo, on, oo, owh, op, op2, od⟩ := o
  simp only at hK hp hp2 hdt
  subst hK
  have TH : Three w (((w.alloc (.cells #[.int .i64 1, .int .i64 oh, .int .i64 ofl, .int .i64 omo, .int .i64 on, .int .i64 oo, .int .i64 owh, str op, str op2, str od] 37)).alloc (.cells #[.int .i64 0, .int .i64 0, str [], .int .i64 0, .int .i64 0, .int .i64 0, .int .i64 0, .int .i64 0, .slice none 0 0] 34)).alloc (.cells #[.int .i64 0, .int .i64 0, str [], .int .i64 0, .int .i64 0, .int .i64 0, .int .i64 0, .int .i64 0, .slice none 0 0] 34)) gw gf gt ⟨1, oh, ofl, omo, on, oo, owh, op, op2, od⟩ := Three.mk' h ⟨1, oh, ofl, omo, on, oo, owh, op, op2, od⟩
  have CC := fun W (k1 : Keep w W) => vOpen_c B gf gt s.u k k k op ofl omo fp s.hs s.T W (h.v.keep k1) (si.lim (by omega)) si.t hp
  simp only at he
  generalize opF s.u s.hs s.T op ofl omo = X at *
  obtain ⟨u', hs', T', nn, er⟩ := X
  simp only at CC he ⊢
  subst he
  have HCC := Hid.mk CC
  have HH := Hid.mk h
  have a0 : (((w.alloc (.cells #[.int .i64 1, .int .i64 oh, .int .i64 ofl, .int .i64 omo, .int .i64 on, .int .i64 oo, .int .i64 owh, str op, str op2, str od] 37)).alloc (.cells #[.int .i64 0, .int .i64 0, str [], .int .i64 0, .int .i64 0, .int .i64 0, .int .i64 0, .int .i64 0, .slice none 0 0] 34)).alloc (.cells #[.int .i64 0, .int .i64 0, str [], .int .i64 0, .int .i64 0, .int .i64 0, .int .i64 0, .int .i64 0, .slice none 0 0] 34)).cell? ⟨w.heap.size, 0, none⟩ = some (.int .i64 1) := TH.a.cell 0
  clear CC si
  change Calls Try.prog 14 #[.pointer (some ⟨gw, 0, none⟩), .agg #[.int .i64 1, .int .i64 oh, .int .i64 ofl, .int .i64 omo, .int .i64 on, .int .i64 oo, .int .i64 owh, str op, str op2, str od]] w _
  go_enter Try.func14, Try.ntmps14
  go_upto_region 5 with fail
  generalize ((w.alloc (.cells #[.int .i64 1, .int .i64 oh, .int .i64 ofl, .int .i64 omo, .int .i64 on, .int .i64 oo, .int .i64 owh, str op, str op2, str od] 37)).alloc (.cells #[.int .i64 0, .int .i64 0, str [], .int .i64 0, .int .i64 0, .int .i64 0, .int .i64 0, .int .i64 0, .slice none 0 0] 34)).alloc (.cells #[.int .i64 0, .int .i64 0, str [], .int .i64 0, .int .i64 0, .int .i64 0, .int .i64 0, .int .i64 0, .slice none 0 0] 34) = w1 at *
  have p0 : w1.cell? ⟨gw, 1, none⟩ = some (.pointer (some ⟨gf, 0, none⟩)) := TH.ww.cell 1
  have a7 : w1.cell? ⟨w.heap.size, 7, none⟩ = some (str op) := TH.a.cell 7
  have a2 : w1.cell? ⟨w.heap.size, 2, none⟩ = some (.int .i64 ofl) := TH.a.cell 2
  have a3 : w1.cell? ⟨w.heap.size, 3, none⟩ = some (.int .i64 omo) := TH.a.cell 3
  have hgw : gw ≠ w.heap.size + 1 + 1 := by have := h.arr.lt; omega
  have HS := Hid.mk (fun y fp1 (st : Stp (fpV fp gf) (fpV fp1 gf) w1.drew y) => TH.stp h st)
  have HSS : Hid (∀ y fp1, Stp (fpV fp gf) (fpV fp1 gf) w1.drew y → (fun W : World => W.cell? ⟨gw, 1, none⟩ = some (.pointer (some ⟨gf, 0, none⟩)) ∧ W.cell? ⟨w.heap.size, 7, none⟩ = some (str op) ∧ W.cell? ⟨w.heap.size, 2, none⟩ = some (.int .i64 ofl) ∧ W.cell? ⟨w.heap.size, 3, none⟩ = some (.int .i64 omo)) y) := Hid.mk (fun y fp1 st => by
    obtain ⟨q1, q2, -, -⟩ := TH.stp h st
    exact ⟨q1.cell 1, q2.cell 7, q2.cell 2, q2.cell 3⟩)
  have HK : Hid (∀ W i v, (fun W : World => W.cell? ⟨gw, 1, none⟩ = some (.pointer (some ⟨gf, 0, none⟩)) ∧ W.cell? ⟨w.heap.size, 7, none⟩ = some (str op) ∧ W.cell? ⟨w.heap.size, 2, none⟩ = some (.int .i64 ofl) ∧ W.cell? ⟨w.heap.size, 3, none⟩ = some (.int .i64 omo)) W → (fun W : World => W.cell? ⟨gw, 1, none⟩ = some (.pointer (some ⟨gf, 0, none⟩)) ∧ W.cell? ⟨w.heap.size, 7, none⟩ = some (str op) ∧ W.cell? ⟨w.heap.size, 2, none⟩ = some (.int .i64 ofl) ∧ W.cell? ⟨w.heap.size, 3, none⟩ = some (.int .i64 omo)) (W.setCell ⟨w.heap.size + 1 + 1, i, none⟩ v)) := Hid.mk (fun W i v hS => by
    simp only at hS ⊢
    simpa only [cell_other hgw, cell_other (show w.heap.size ≠ w.heap.size + 1 + 1 by omega)] using hS)
  have HBC : Hid ((w.heap.size ≤ w.heap.size + 1 ∧ w.heap.size + 1 < w1.drew.heap.size) ∧ (w.heap.size ≤ w.heap.size + 1 + 1 ∧ w.heap.size + 1 + 1 < w1.drew.heap.size) ∧ w.heap.size + 1 ≠ w.heap.size + 1 + 1) := Hid.mk ⟨⟨by omega, by show _ < w1.heap.size; rw [TH.sz]; omega⟩, ⟨by omega, by show _ < w1.heap.size; rw [TH.sz]; omega⟩, by omega⟩
  have HTK := Hid.mk TH.k.drew
  have S1 : (fun W : World => W.cell? ⟨gw, 1, none⟩ = some (.pointer (some ⟨gf, 0, none⟩)) ∧ W.cell? ⟨w.heap.size, 7, none⟩ = some (str op) ∧ W.cell? ⟨w.heap.size, 2, none⟩ = some (.int .i64 ofl) ∧ W.cell? ⟨w.heap.size, 3, none⟩ = some (.int .i64 omo)) w1.drew := ⟨(Keep.refl w1).drew.cell p0, (Keep.refl w1).drew.cell a7, (Keep.refl w1).drew.cell a2, (Keep.refl w1).drew.cell a3⟩
  clear TH a0 hgw h
  generalize hgA : w.heap.size = gA at *
  generalize gA + 1 = gB at *
  generalize gB + 1 = gC at *
  go_region_held3 (fun W : World => W.cell? ⟨gw, 1, none⟩ = some (.pointer (some ⟨gf, 0, none⟩)) ∧ W.cell? ⟨gA, 7, none⟩ = some (str op) ∧ W.cell? ⟨gA, 2, none⟩ = some (.int .i64 ofl) ∧ W.cell? ⟨gA, 3, none⟩ = some (.int .i64 omo))
    (with_reducible first | assumption | exact ⟨p0, a7, a2, a3⟩ | exact S1 | exact S2 | exact HK.out _ _ _ S2 | exact HK.out _ _ _ (HK.out _ _ _ S2) | exact HK.out _ _ _ (HK.out _ _ _ (HK.out _ _ _ (HK.out _ _ _ (HK.out _ _ _ S2)))) | exact HK.out _ _ _ (HK.out _ _ _ (HK.out _ _ _ (HK.out _ _ _ (HK.out _ _ _ (HK.out _ _ _ S2))))))
    ((go_at_call 28; refine (HCC.out _ HTK.out).mono ?_; rintro x y ⟨fp1, rfl, V1, st⟩
      have S2 := HSS.out _ _ st
      obtain ⟨-, -, RB, RC⟩ := HS.out _ _ st
      have t0 : y.cell? ⟨gC, 0, none⟩ = some (.int .i64 0) := RC.cell 0
      have t1 : y.cell? ⟨gC, 1, none⟩ = some (.int .i64 0) := RC.cell 1
      have t2 : y.cell? ⟨gC, 2, none⟩ = some (str []) := RC.cell 2
      have t3 : y.cell? ⟨gC, 3, none⟩ = some (.int .i64 0) := RC.cell 3
      have t4 : y.cell? ⟨gC, 4, none⟩ = some (.int .i64 0) := RC.cell 4
      have t5 : y.cell? ⟨gC, 5, none⟩ = some (.int .i64 0) := RC.cell 5
      have t6 : y.cell? ⟨gC, 6, none⟩ = some (.int .i64 0) := RC.cell 6
      have t7 : y.cell? ⟨gC, 7, none⟩ = some (.int .i64 0) := RC.cell 7
      have t8 : y.cell? ⟨gC, 8, none⟩ = some (.slice none 0 0) := RC.cell 8
      have z0 := RC.frozen 0
      have z1 := RC.frozen 1
      have z2 := RC.frozen 2
      have z3 := RC.frozen 3
      have z4 := RC.frozen 4
      have z5 := RC.frozen 5
      have z6 := RC.frozen 6
      have z7 := RC.frozen 7
      have z8 := RC.frozen 8
      have HF2 := Hid.mk (((Fr.refl (fun q => q = gC) y).setCell (p := ⟨gC, 0, none⟩) (Or.inl rfl) (.int .i64 0)).setCell (p := ⟨gC, 1, none⟩) (Or.inl rfl) (.int .i64 nn))
      have HC2 : Hid (Arr ((y.setCell ⟨gC, 0, none⟩ (.int .i64 0)).setCell ⟨gC, 1, none⟩ (.int .i64 nn)) gC 34 [.int .i64 0, .int .i64 nn, str [], .int .i64 0, .int .i64 0, .int .i64 0, .int .i64 0, .int .i64 0, .slice none 0 0]) := Hid.mk ((RC.set 0 (.int .i64 0)).set 1 (.int .i64 nn))
      have HB2 : Hid (Arr ((y.setCell ⟨gC, 0, none⟩ (.int .i64 0)).setCell ⟨gC, 1, none⟩ (.int .i64 nn)) gB 34 zeroC) := Hid.mk ((((Fr.refl (fun q => q = gC) y).setCell (p := ⟨gC, 0, none⟩) (Or.inl rfl) (.int .i64 0)).setCell (p := ⟨gC, 1, none⟩) (Or.inl rfl) (.int .i64 nn)).arr HBC.out.2.2 RB)
      have HST := Hid.mk st
      have HV1 := Hid.mk V1
      clear RB RC V1 st))
  go_upto_region 52 with fail
  generalize ((y.setCell ⟨gC, 0, none⟩ (.int .i64 0)).setCell ⟨gC, 1, none⟩ (.int .i64 nn)) = Y at *
  clear t0 z0 t1 z1 t2 z2 t3 z3 t4 z4 t5 z5 t6 z6 t7 z7 t8 z8
  have t0 : Y.cell? ⟨gC, 0, none⟩ = some (.int .i64 0) := HC2.out.cell 0
  have t1 : Y.cell? ⟨gC, 1, none⟩ = some (.int .i64 nn) := HC2.out.cell 1
  have t2 : Y.cell? ⟨gC, 2, none⟩ = some (str []) := HC2.out.cell 2
  have t3 : Y.cell? ⟨gC, 3, none⟩ = some (.int .i64 0) := HC2.out.cell 3
  have t4 : Y.cell? ⟨gC, 4, none⟩ = some (.int .i64 0) := HC2.out.cell 4
  have t5 : Y.cell? ⟨gC, 5, none⟩ = some (.int .i64 0) := HC2.out.cell 5
  have t6 : Y.cell? ⟨gC, 6, none⟩ = some (.int .i64 0) := HC2.out.cell 6
  have t7 : Y.cell? ⟨gC, 7, none⟩ = some (.int .i64 0) := HC2.out.cell 7
  have t8 : Y.cell? ⟨gC, 8, none⟩ = some (.slice none 0 0) := HC2.out.cell 8
  have b0 : Y.cell? ⟨gB, 0, none⟩ = some (.int .i64 0) := HB2.out.cell 0
  have b1 : Y.cell? ⟨gB, 1, none⟩ = some (.int .i64 0) := HB2.out.cell 1
  have b2 : Y.cell? ⟨gB, 2, none⟩ = some (str []) := HB2.out.cell 2
  have b3 : Y.cell? ⟨gB, 3, none⟩ = some (.int .i64 0) := HB2.out.cell 3
  have b4 : Y.cell? ⟨gB, 4, none⟩ = some (.int .i64 0) := HB2.out.cell 4
  have b5 : Y.cell? ⟨gB, 5, none⟩ = some (.int .i64 0) := HB2.out.cell 5
  have b6 : Y.cell? ⟨gB, 6, none⟩ = some (.int .i64 0) := HB2.out.cell 6
  have b7 : Y.cell? ⟨gB, 7, none⟩ = some (.int .i64 0) := HB2.out.cell 7
  have b8 : Y.cell? ⟨gB, 8, none⟩ = some (.slice none 0 0) := HB2.out.cell 8
  have y0 := HB2.out.frozen 0
  have y1 := HB2.out.frozen 1
  have y2 := HB2.out.frozen 2
  have y3 := HB2.out.frozen 3
  have y4 := HB2.out.frozen 4
  have y5 := HB2.out.frozen 5
  have y6 := HB2.out.frozen 6
  have y7 := HB2.out.frozen 7
  have y8 := HB2.out.frozen 8
  have HFR := Hid.mk (((((((((((HF2.out.mono (fun q _ e => Or.inr e) : Fr (fun q => q = gB ∨ q = gC) y Y)).setCell (p := ⟨gB, 0, none⟩) (Or.inl (Or.inl rfl)) (.int .i64 0)).setCell (p := ⟨gB, 1, none⟩) (Or.inl (Or.inl rfl)) (.int .i64 nn)).setCell (p := ⟨gB, 2, none⟩) (Or.inl (Or.inl rfl)) (str [])).setCell (p := ⟨gB, 3, none⟩) (Or.inl (Or.inl rfl)) (.int .i64 0)).setCell (p := ⟨gB, 4, none⟩) (Or.inl (Or.inl rfl)) (.int .i64 0)).setCell (p := ⟨gB, 5, none⟩) (Or.inl (Or.inl rfl)) (.int .i64 0)).setCell (p := ⟨gB, 6, none⟩) (Or.inl (Or.inl rfl)) (.int .i64 0)).setCell (p := ⟨gB, 7, none⟩) (Or.inl (Or.inl rfl)) (.int .i64 0)).setCell (p := ⟨gB, 8, none⟩) (Or.inl (Or.inl rfl)) (.slice none 0 0))
  have HAZ := Hid.mk ((((((((((HB2.out).set 0 (.int .i64 0)).set 1 (.int .i64 nn)).set 2 (str [])).set 3 (.int .i64 0)).set 4 (.int .i64 0)).set 5 (.int .i64 0)).set 6 (.int .i64 0)).set 7 (.int .i64 0)).set 8 (.slice none 0 0))
  clear HF2 HC2 HB2
  go_wp2_with fail
  refine bodyPost_ret (v := .agg (ansC ⟨0, nn, [], sta0, []⟩ (.slice none 0 0)).toArray) (results_cell_row1 rfl _ _ gB 34 _ (0, 0) _ rfl HAZ.out Try.underlying34 rfl s34) rfl ?_
  exact PlayP.fin (s' := ⟨u', hs', T'⟩) HH.out HTK.out HV1.out HST.out (by rw [hgA]; exact HBC.out.1) (by rw [hgA]; exact HBC.out.2.1) (OwnS.nil _ _ _ _ _) HFR.out
set_option maxRecDepth 6000 in
set_option maxHeartbeats 8000000 in
theorem play1b {B gw gf gt k : Nat} {fp : Nat → Prop} {w : World} {s : Stt} (o : OpV) (hK : o.kind = 1) (h : WW B fp w gw gf gt s) (si : SI k s.u s.hs s.T) (hk : k ≤ 70000) (hp : o.path.length ≤ 100000) (hp2 : o.path2.length ≤ 100000) (hdt : o.data.length ≤ 100000) (he : (opF s.u s.hs s.T o.path o.flags o.mode).2.2.2.2 ≠ 0) :
    Calls Try.prog 14 #[.pointer (some ⟨gw, 0, none⟩), .agg (opC o).toArray] w fun e w' => PlayP B fp w gw gf gt ⟨(opF s.u s.hs s.T o.path o.flags o.mode).2.2.2.2, 0, [], sta0, []⟩ ⟨(opF s.u s.hs s.T o.path o.flags o.mode).1, (opF s.u s.hs s.T o.path o.flags o.mode).2.1, (opF s.u s.hs s.T o.path o.flags o.mode).2.2.1⟩ e w' := by
  obtain ⟨ok, oh, ofl, omo, on, oo, owh, op, op2, od⟩ := o
  simp only at hK hp hp2 hdt
  subst hK
  have TH : Three w (((w.alloc (.cells #[.int .i64 1, .int .i64 oh, .int .i64 ofl, .int .i64 omo, .int .i64 on, .int .i64 oo, .int .i64 owh, str op, str op2, str od] 37)).alloc (.cells #[.int .i64 0, .int .i64 0, str [], .int .i64 0, .int .i64 0, .int .i64 0, .int .i64 0, .int .i64 0, .slice none 0 0] 34)).alloc (.cells #[.int .i64 0, .int .i64 0, str [], .int .i64 0, .int .i64 0, .int .i64 0, .int .i64 0, .int .i64 0, .slice none 0 0] 34)) gw gf gt ⟨1, oh, ofl, omo, on, oo, owh, op, op2, od⟩ := Three.mk' h ⟨1, oh, ofl, omo, on, oo, owh, op, op2, od⟩
  have CC := fun W (k1 : Keep w W) => vOpen_c B gf gt s.u k k k op ofl omo fp s.hs s.T W (h.v.keep k1) (si.lim (by omega)) si.t hp
  simp only at he
  generalize opF s.u s.hs s.T op ofl omo = X at *
  obtain ⟨u', hs', T', nn, er⟩ := X
  simp only at CC he ⊢
  have hq : (er == 0) = false := by simpa using he
  clear he
  have HCC := Hid.mk CC
  have HH := Hid.mk h
  have a0 : (((w.alloc (.cells #[.int .i64 1, .int .i64 oh, .int .i64 ofl, .int .i64 omo, .int .i64 on, .int .i64 oo, .int .i64 owh, str op, str op2, str od] 37)).alloc (.cells #[.int .i64 0, .int .i64 0, str [], .int .i64 0, .int .i64 0, .int .i64 0, .int .i64 0, .int .i64 0, .slice none 0 0] 34)).alloc (.cells #[.int .i64 0, .int .i64 0, str [], .int .i64 0, .int .i64 0, .int .i64 0, .int .i64 0, .int .i64 0, .slice none 0 0] 34)).cell? ⟨w.heap.size, 0, none⟩ = some (.int .i64 1) := TH.a.cell 0
  clear CC si
  change Calls Try.prog 14 #[.pointer (some ⟨gw, 0, none⟩), .agg #[.int .i64 1, .int .i64 oh, .int .i64 ofl, .int .i64 omo, .int .i64 on, .int .i64 oo, .int .i64 owh, str op, str op2, str od]] w _
  go_enter Try.func14, Try.ntmps14
  go_upto_region 5 with fail
  generalize ((w.alloc (.cells #[.int .i64 1, .int .i64 oh, .int .i64 ofl, .int .i64 omo, .int .i64 on, .int .i64 oo, .int .i64 owh, str op, str op2, str od] 37)).alloc (.cells #[.int .i64 0, .int .i64 0, str [], .int .i64 0, .int .i64 0, .int .i64 0, .int .i64 0, .int .i64 0, .slice none 0 0] 34)).alloc (.cells #[.int .i64 0, .int .i64 0, str [], .int .i64 0, .int .i64 0, .int .i64 0, .int .i64 0, .int .i64 0, .slice none 0 0] 34) = w1 at *
  have p0 : w1.cell? ⟨gw, 1, none⟩ = some (.pointer (some ⟨gf, 0, none⟩)) := TH.ww.cell 1
  have a7 : w1.cell? ⟨w.heap.size, 7, none⟩ = some (str op) := TH.a.cell 7
  have a2 : w1.cell? ⟨w.heap.size, 2, none⟩ = some (.int .i64 ofl) := TH.a.cell 2
  have a3 : w1.cell? ⟨w.heap.size, 3, none⟩ = some (.int .i64 omo) := TH.a.cell 3
  have hgw : gw ≠ w.heap.size + 1 + 1 := by have := h.arr.lt; omega
  have HS := Hid.mk (fun y fp1 (st : Stp (fpV fp gf) (fpV fp1 gf) w1.drew y) => TH.stp h st)
  have HSS : Hid (∀ y fp1, Stp (fpV fp gf) (fpV fp1 gf) w1.drew y → (fun W : World => W.cell? ⟨gw, 1, none⟩ = some (.pointer (some ⟨gf, 0, none⟩)) ∧ W.cell? ⟨w.heap.size, 7, none⟩ = some (str op) ∧ W.cell? ⟨w.heap.size, 2, none⟩ = some (.int .i64 ofl) ∧ W.cell? ⟨w.heap.size, 3, none⟩ = some (.int .i64 omo)) y) := Hid.mk (fun y fp1 st => by
    obtain ⟨q1, q2, -, -⟩ := TH.stp h st
    exact ⟨q1.cell 1, q2.cell 7, q2.cell 2, q2.cell 3⟩)
  have HK : Hid (∀ W i v, (fun W : World => W.cell? ⟨gw, 1, none⟩ = some (.pointer (some ⟨gf, 0, none⟩)) ∧ W.cell? ⟨w.heap.size, 7, none⟩ = some (str op) ∧ W.cell? ⟨w.heap.size, 2, none⟩ = some (.int .i64 ofl) ∧ W.cell? ⟨w.heap.size, 3, none⟩ = some (.int .i64 omo)) W → (fun W : World => W.cell? ⟨gw, 1, none⟩ = some (.pointer (some ⟨gf, 0, none⟩)) ∧ W.cell? ⟨w.heap.size, 7, none⟩ = some (str op) ∧ W.cell? ⟨w.heap.size, 2, none⟩ = some (.int .i64 ofl) ∧ W.cell? ⟨w.heap.size, 3, none⟩ = some (.int .i64 omo)) (W.setCell ⟨w.heap.size + 1 + 1, i, none⟩ v)) := Hid.mk (fun W i v hS => by
    simp only at hS ⊢
    simpa only [cell_other hgw, cell_other (show w.heap.size ≠ w.heap.size + 1 + 1 by omega)] using hS)
  have HBC : Hid ((w.heap.size ≤ w.heap.size + 1 ∧ w.heap.size + 1 < w1.drew.heap.size) ∧ (w.heap.size ≤ w.heap.size + 1 + 1 ∧ w.heap.size + 1 + 1 < w1.drew.heap.size) ∧ w.heap.size + 1 ≠ w.heap.size + 1 + 1) := Hid.mk ⟨⟨by omega, by show _ < w1.heap.size; rw [TH.sz]; omega⟩, ⟨by omega, by show _ < w1.heap.size; rw [TH.sz]; omega⟩, by omega⟩
  have HTK := Hid.mk TH.k.drew
  have S1 : (fun W : World => W.cell? ⟨gw, 1, none⟩ = some (.pointer (some ⟨gf, 0, none⟩)) ∧ W.cell? ⟨w.heap.size, 7, none⟩ = some (str op) ∧ W.cell? ⟨w.heap.size, 2, none⟩ = some (.int .i64 ofl) ∧ W.cell? ⟨w.heap.size, 3, none⟩ = some (.int .i64 omo)) w1.drew := ⟨(Keep.refl w1).drew.cell p0, (Keep.refl w1).drew.cell a7, (Keep.refl w1).drew.cell a2, (Keep.refl w1).drew.cell a3⟩
  clear TH a0 hgw h
  generalize hgA : w.heap.size = gA at *
  generalize gA + 1 = gB at *
  generalize gB + 1 = gC at *
  go_region_held3 (fun W : World => W.cell? ⟨gw, 1, none⟩ = some (.pointer (some ⟨gf, 0, none⟩)) ∧ W.cell? ⟨gA, 7, none⟩ = some (str op) ∧ W.cell? ⟨gA, 2, none⟩ = some (.int .i64 ofl) ∧ W.cell? ⟨gA, 3, none⟩ = some (.int .i64 omo))
    (with_reducible first | assumption | exact ⟨p0, a7, a2, a3⟩ | exact S1 | exact S2 | exact HK.out _ _ _ S2 | exact HK.out _ _ _ (HK.out _ _ _ S2) | exact HK.out _ _ _ (HK.out _ _ _ (HK.out _ _ _ (HK.out _ _ _ (HK.out _ _ _ S2)))) | exact HK.out _ _ _ (HK.out _ _ _ (HK.out _ _ _ (HK.out _ _ _ (HK.out _ _ _ (HK.out _ _ _ S2))))))
    ((go_at_call 28; refine (HCC.out _ HTK.out).mono ?_; rintro x y ⟨fp1, rfl, V1, st⟩
      have S2 := HSS.out _ _ st
      obtain ⟨-, -, RB, RC⟩ := HS.out _ _ st
      have t0 : y.cell? ⟨gC, 0, none⟩ = some (.int .i64 0) := RC.cell 0
      have t1 : y.cell? ⟨gC, 1, none⟩ = some (.int .i64 0) := RC.cell 1
      have t2 : y.cell? ⟨gC, 2, none⟩ = some (str []) := RC.cell 2
      have t3 : y.cell? ⟨gC, 3, none⟩ = some (.int .i64 0) := RC.cell 3
      have t4 : y.cell? ⟨gC, 4, none⟩ = some (.int .i64 0) := RC.cell 4
      have t5 : y.cell? ⟨gC, 5, none⟩ = some (.int .i64 0) := RC.cell 5
      have t6 : y.cell? ⟨gC, 6, none⟩ = some (.int .i64 0) := RC.cell 6
      have t7 : y.cell? ⟨gC, 7, none⟩ = some (.int .i64 0) := RC.cell 7
      have t8 : y.cell? ⟨gC, 8, none⟩ = some (.slice none 0 0) := RC.cell 8
      have z0 := RC.frozen 0
      have z1 := RC.frozen 1
      have z2 := RC.frozen 2
      have z3 := RC.frozen 3
      have z4 := RC.frozen 4
      have z5 := RC.frozen 5
      have z6 := RC.frozen 6
      have z7 := RC.frozen 7
      have z8 := RC.frozen 8
      have HF2 := Hid.mk ((Fr.refl (fun q => q = gC) y).setCell (p := ⟨gC, 0, none⟩) (Or.inl rfl) (.int .i64 er))
      have HC2 : Hid (Arr (y.setCell ⟨gC, 0, none⟩ (.int .i64 er)) gC 34 [.int .i64 er, .int .i64 0, str [], .int .i64 0, .int .i64 0, .int .i64 0, .int .i64 0, .int .i64 0, .slice none 0 0]) := Hid.mk (RC.set 0 (.int .i64 er))
      have HB2 : Hid (Arr (y.setCell ⟨gC, 0, none⟩ (.int .i64 er)) gB 34 zeroC) := Hid.mk (((Fr.refl (fun q => q = gC) y).setCell (p := ⟨gC, 0, none⟩) (Or.inl rfl) (.int .i64 er)).arr HBC.out.2.2 RB)
      have HST := Hid.mk st
      have HV1 := Hid.mk V1
      clear RB RC V1 st))
  go_upto_region 52 with fail
  generalize (y.setCell ⟨gC, 0, none⟩ (.int .i64 er)) = Y at *
  clear t0 z0 t1 z1 t2 z2 t3 z3 t4 z4 t5 z5 t6 z6 t7 z7 t8 z8
  have t0 : Y.cell? ⟨gC, 0, none⟩ = some (.int .i64 er) := HC2.out.cell 0
  have t1 : Y.cell? ⟨gC, 1, none⟩ = some (.int .i64 0) := HC2.out.cell 1
  have t2 : Y.cell? ⟨gC, 2, none⟩ = some (str []) := HC2.out.cell 2
  have t3 : Y.cell? ⟨gC, 3, none⟩ = some (.int .i64 0) := HC2.out.cell 3
  have t4 : Y.cell? ⟨gC, 4, none⟩ = some (.int .i64 0) := HC2.out.cell 4
  have t5 : Y.cell? ⟨gC, 5, none⟩ = some (.int .i64 0) := HC2.out.cell 5
  have t6 : Y.cell? ⟨gC, 6, none⟩ = some (.int .i64 0) := HC2.out.cell 6
  have t7 : Y.cell? ⟨gC, 7, none⟩ = some (.int .i64 0) := HC2.out.cell 7
  have t8 : Y.cell? ⟨gC, 8, none⟩ = some (.slice none 0 0) := HC2.out.cell 8
  have b0 : Y.cell? ⟨gB, 0, none⟩ = some (.int .i64 0) := HB2.out.cell 0
  have b1 : Y.cell? ⟨gB, 1, none⟩ = some (.int .i64 0) := HB2.out.cell 1
  have b2 : Y.cell? ⟨gB, 2, none⟩ = some (str []) := HB2.out.cell 2
  have b3 : Y.cell? ⟨gB, 3, none⟩ = some (.int .i64 0) := HB2.out.cell 3
  have b4 : Y.cell? ⟨gB, 4, none⟩ = some (.int .i64 0) := HB2.out.cell 4
  have b5 : Y.cell? ⟨gB, 5, none⟩ = some (.int .i64 0) := HB2.out.cell 5
  have b6 : Y.cell? ⟨gB, 6, none⟩ = some (.int .i64 0) := HB2.out.cell 6
  have b7 : Y.cell? ⟨gB, 7, none⟩ = some (.int .i64 0) := HB2.out.cell 7
  have b8 : Y.cell? ⟨gB, 8, none⟩ = some (.slice none 0 0) := HB2.out.cell 8
  have y0 := HB2.out.frozen 0
  have y1 := HB2.out.frozen 1
  have y2 := HB2.out.frozen 2
  have y3 := HB2.out.frozen 3
  have y4 := HB2.out.frozen 4
  have y5 := HB2.out.frozen 5
  have y6 := HB2.out.frozen 6
  have y7 := HB2.out.frozen 7
  have y8 := HB2.out.frozen 8
  have HFR := Hid.mk (((((((((((HF2.out.mono (fun q _ e => Or.inr e) : Fr (fun q => q = gB ∨ q = gC) y Y)).setCell (p := ⟨gB, 0, none⟩) (Or.inl (Or.inl rfl)) (.int .i64 er)).setCell (p := ⟨gB, 1, none⟩) (Or.inl (Or.inl rfl)) (.int .i64 0)).setCell (p := ⟨gB, 2, none⟩) (Or.inl (Or.inl rfl)) (str [])).setCell (p := ⟨gB, 3, none⟩) (Or.inl (Or.inl rfl)) (.int .i64 0)).setCell (p := ⟨gB, 4, none⟩) (Or.inl (Or.inl rfl)) (.int .i64 0)).setCell (p := ⟨gB, 5, none⟩) (Or.inl (Or.inl rfl)) (.int .i64 0)).setCell (p := ⟨gB, 6, none⟩) (Or.inl (Or.inl rfl)) (.int .i64 0)).setCell (p := ⟨gB, 7, none⟩) (Or.inl (Or.inl rfl)) (.int .i64 0)).setCell (p := ⟨gB, 8, none⟩) (Or.inl (Or.inl rfl)) (.slice none 0 0))
  have HAZ := Hid.mk ((((((((((HB2.out).set 0 (.int .i64 er)).set 1 (.int .i64 0)).set 2 (str [])).set 3 (.int .i64 0)).set 4 (.int .i64 0)).set 5 (.int .i64 0)).set 6 (.int .i64 0)).set 7 (.int .i64 0)).set 8 (.slice none 0 0))
  clear HF2 HC2 HB2
  go_wp2_with fail
  refine bodyPost_ret (v := .agg (ansC ⟨er, 0, [], sta0, []⟩ (.slice none 0 0)).toArray) (results_cell_row1 rfl _ _ gB 34 _ (0, 0) _ rfl HAZ.out Try.underlying34 rfl s34) rfl ?_
  exact PlayP.fin (s' := ⟨u', hs', T'⟩) HH.out HTK.out HV1.out HST.out (by rw [hgA]; exact HBC.out.1) (by rw [hgA]; exact HBC.out.2.1) (OwnS.nil _ _ _ _ _) HFR.out
end Go.Proofs.Qxb6500767a
