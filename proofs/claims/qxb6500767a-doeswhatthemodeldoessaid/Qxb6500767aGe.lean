/- unionvfslaw: play, arms Ge. -/
import Derived.Test.Qxb6500767aFq
namespace Go.Proofs.Qxb6500767a
open Go.RowKit Go.Qm
set_option linter.unusedVariables false
set_option linter.unusedSimpArgs false
attribute [local go_sem ↓] Go.wp_at_zero Go.wp_at_succ
set_option maxRecDepth 6000 in
set_option maxHeartbeats 8000000 in
theorem play4 {B gw gf gt k : Nat} {fp : Nat → Prop} {w : World} {s : Stt} (o : OpV) (hK : o.kind = 4) (h : WW B fp w gw gf gt s) (si : SI k s.u s.hs s.T) (hk : k ≤ 70000) (hp : o.path.length ≤ 100000) (hp2 : o.path2.length ≤ 100000) (hdt : o.data.length ≤ 100000) :
    Calls Try.prog 14 #[.pointer (some ⟨gw, 0, none⟩), .agg (opC o).toArray] w fun e w' => PlayP B fp w gw gf gt ⟨(rdaF s.u s.hs s.T o.h o.off o.n).2, ((rdaF s.u s.hs s.T o.h o.off o.n).1.length : Nat), (rdaF s.u s.hs s.T o.h o.off o.n).1, sta0, []⟩ s e w' := by
  obtain ⟨ok, oh, ofl, omo, on, oo, owh, op, op2, od⟩ := o
  simp only at hK hp hp2 hdt
  subst hK
  have TH : Three w (((w.alloc (.cells #[.int .i64 4, .int .i64 oh, .int .i64 ofl, .int .i64 omo, .int .i64 on, .int .i64 oo, .int .i64 owh, str op, str op2, str od] 37)).alloc (.cells #[.int .i64 0, .int .i64 0, str [], .int .i64 0, .int .i64 0, .int .i64 0, .int .i64 0, .int .i64 0, .slice none 0 0] 34)).alloc (.cells #[.int .i64 0, .int .i64 0, str [], .int .i64 0, .int .i64 0, .int .i64 0, .int .i64 0, .int .i64 0, .slice none 0 0] 34)) gw gf gt ⟨4, oh, ofl, omo, on, oo, owh, op, op2, od⟩ := Three.mk' h ⟨4, oh, ofl, omo, on, oo, owh, op, op2, od⟩
  have CC := fun W (k1 : Keep w W) => vReadAt_c B gf gt s.u oh oo on fp s.hs s.T W (h.v.keep k1) si.h.node (fun i _ => by have := si.t.data i; omega)
  generalize rdaF s.u s.hs s.T oh oo on = X at *
  obtain ⟨dd, er⟩ := X
  simp only at CC ⊢
  have HCC := Hid.mk CC
  have HH := Hid.mk h
  have a0 : (((w.alloc (.cells #[.int .i64 4, .int .i64 oh, .int .i64 ofl, .int .i64 omo, .int .i64 on, .int .i64 oo, .int .i64 owh, str op, str op2, str od] 37)).alloc (.cells #[.int .i64 0, .int .i64 0, str [], .int .i64 0, .int .i64 0, .int .i64 0, .int .i64 0, .int .i64 0, .slice none 0 0] 34)).alloc (.cells #[.int .i64 0, .int .i64 0, str [], .int .i64 0, .int .i64 0, .int .i64 0, .int .i64 0, .int .i64 0, .slice none 0 0] 34)).cell? ⟨w.heap.size, 0, none⟩ = some (.int .i64 4) := TH.a.cell 0
  clear CC si
  change Calls Try.prog 14 #[.pointer (some ⟨gw, 0, none⟩), .agg #[.int .i64 4, .int .i64 oh, .int .i64 ofl, .int .i64 omo, .int .i64 on, .int .i64 oo, .int .i64 owh, str op, str op2, str od]] w _
  go_enter Try.func14, Try.ntmps14
  go_upto_region 15 with fail
  generalize ((w.alloc (.cells #[.int .i64 4, .int .i64 oh, .int .i64 ofl, .int .i64 omo, .int .i64 on, .int .i64 oo, .int .i64 owh, str op, str op2, str od] 37)).alloc (.cells #[.int .i64 0, .int .i64 0, str [], .int .i64 0, .int .i64 0, .int .i64 0, .int .i64 0, .int .i64 0, .slice none 0 0] 34)).alloc (.cells #[.int .i64 0, .int .i64 0, str [], .int .i64 0, .int .i64 0, .int .i64 0, .int .i64 0, .int .i64 0, .slice none 0 0] 34) = w1 at *
  have p0 : w1.cell? ⟨gw, 1, none⟩ = some (.pointer (some ⟨gf, 0, none⟩)) := TH.ww.cell 1
  have a1 : w1.cell? ⟨w.heap.size, 1, none⟩ = some (.int .i64 oh) := TH.a.cell 1
  have a5 : w1.cell? ⟨w.heap.size, 5, none⟩ = some (.int .i64 oo) := TH.a.cell 5
  have a4 : w1.cell? ⟨w.heap.size, 4, none⟩ = some (.int .i64 on) := TH.a.cell 4
  have hgw : gw ≠ w.heap.size + 1 + 1 := by have := h.arr.lt; omega
  have HS := Hid.mk (fun y fp1 (st : Stp (fpV fp gf) (fpV fp1 gf) w1.drew y) => TH.stp h st)
  have HSS : Hid (∀ y fp1, Stp (fpV fp gf) (fpV fp1 gf) w1.drew y → (fun W : World => W.cell? ⟨gw, 1, none⟩ = some (.pointer (some ⟨gf, 0, none⟩)) ∧ W.cell? ⟨w.heap.size, 1, none⟩ = some (.int .i64 oh) ∧ W.cell? ⟨w.heap.size, 5, none⟩ = some (.int .i64 oo) ∧ W.cell? ⟨w.heap.size, 4, none⟩ = some (.int .i64 on)) y) := Hid.mk (fun y fp1 st => by
    obtain ⟨q1, q2, -, -⟩ := TH.stp h st
    exact ⟨q1.cell 1, q2.cell 1, q2.cell 5, q2.cell 4⟩)
  have HK : Hid (∀ W i v, (fun W : World => W.cell? ⟨gw, 1, none⟩ = some (.pointer (some ⟨gf, 0, none⟩)) ∧ W.cell? ⟨w.heap.size, 1, none⟩ = some (.int .i64 oh) ∧ W.cell? ⟨w.heap.size, 5, none⟩ = some (.int .i64 oo) ∧ W.cell? ⟨w.heap.size, 4, none⟩ = some (.int .i64 on)) W → (fun W : World => W.cell? ⟨gw, 1, none⟩ = some (.pointer (some ⟨gf, 0, none⟩)) ∧ W.cell? ⟨w.heap.size, 1, none⟩ = some (.int .i64 oh) ∧ W.cell? ⟨w.heap.size, 5, none⟩ = some (.int .i64 oo) ∧ W.cell? ⟨w.heap.size, 4, none⟩ = some (.int .i64 on)) (W.setCell ⟨w.heap.size + 1 + 1, i, none⟩ v)) := Hid.mk (fun W i v hS => by
    simp only at hS ⊢
    simpa only [cell_other hgw, cell_other (show w.heap.size ≠ w.heap.size + 1 + 1 by omega)] using hS)
  have HBC : Hid ((w.heap.size ≤ w.heap.size + 1 ∧ w.heap.size + 1 < w1.drew.heap.size) ∧ (w.heap.size ≤ w.heap.size + 1 + 1 ∧ w.heap.size + 1 + 1 < w1.drew.heap.size) ∧ w.heap.size + 1 ≠ w.heap.size + 1 + 1) := Hid.mk ⟨⟨by omega, by show _ < w1.heap.size; rw [TH.sz]; omega⟩, ⟨by omega, by show _ < w1.heap.size; rw [TH.sz]; omega⟩, by omega⟩
  have HTK := Hid.mk TH.k.drew
  have S1 : (fun W : World => W.cell? ⟨gw, 1, none⟩ = some (.pointer (some ⟨gf, 0, none⟩)) ∧ W.cell? ⟨w.heap.size, 1, none⟩ = some (.int .i64 oh) ∧ W.cell? ⟨w.heap.size, 5, none⟩ = some (.int .i64 oo) ∧ W.cell? ⟨w.heap.size, 4, none⟩ = some (.int .i64 on)) w1.drew := ⟨(Keep.refl w1).drew.cell p0, (Keep.refl w1).drew.cell a1, (Keep.refl w1).drew.cell a5, (Keep.refl w1).drew.cell a4⟩
  clear TH a0 hgw h
  generalize hgA : w.heap.size = gA at *
  generalize gA + 1 = gB at *
  generalize gB + 1 = gC at *
  go_region_held3 (fun W : World => W.cell? ⟨gw, 1, none⟩ = some (.pointer (some ⟨gf, 0, none⟩)) ∧ W.cell? ⟨gA, 1, none⟩ = some (.int .i64 oh) ∧ W.cell? ⟨gA, 5, none⟩ = some (.int .i64 oo) ∧ W.cell? ⟨gA, 4, none⟩ = some (.int .i64 on))
    (with_reducible first | assumption | exact ⟨p0, a1, a5, a4⟩ | exact S1 | exact S2 | exact HK.out _ _ _ S2 | exact HK.out _ _ _ (HK.out _ _ _ S2) | exact HK.out _ _ _ (HK.out _ _ _ (HK.out _ _ _ (HK.out _ _ _ (HK.out _ _ _ S2)))) | exact HK.out _ _ _ (HK.out _ _ _ (HK.out _ _ _ (HK.out _ _ _ (HK.out _ _ _ (HK.out _ _ _ S2))))))
    ((go_at_call 25; refine (HCC.out _ HTK.out).mono ?_; rintro x y ⟨rfl, kk⟩; have V1 := HH.out.v.keep (HTK.out.trans kk); have st : Stp (fpV fp gf) (fpV fp gf) w1.drew y := Stp.keep kk
      have S2 := HSS.out _ _ st
      obtain ⟨-, -, RB, RC⟩ := HS.out _ _ st
      have t0 : y.cell? ⟨gC, 0, none⟩ = some (.int .i64 0) := RC.cell 0
      have t1 : y.cell? ⟨gC, 1, none⟩ = some (.int .i64 0) := RC.cell 1
      have t2 : y.cell? ⟨gC, 2, none⟩ = some (str []) := RC.cell 2
      have t3 : y.cell? ⟨gC, 3, none⟩ = some (.int .i64 0) := RC.cell 3
      have t4 : y.cell? ⟨gC, 4, none⟩ = some (.int .i64 0) := RC.cell 4
      have t5 : y.cell? ⟨gC, 5, none⟩ = some (.int .i64 0) := RC.cell 5
      have t6 : y.cell? ⟨gC, 6, none⟩ = some (.int .i64 0) := RC.cell 6
      have t7 : y.cell? ⟨gC, 7, none⟩ = some (.int .i64 0) := RC.cell 7
      have t8 : y.cell? ⟨gC, 8, none⟩ = some (.slice none 0 0) := RC.cell 8
      have z0 := RC.frozen 0
      have z1 := RC.frozen 1
      have z2 := RC.frozen 2
      have z3 := RC.frozen 3
      have z4 := RC.frozen 4
      have z5 := RC.frozen 5
      have z6 := RC.frozen 6
      have z7 := RC.frozen 7
      have z8 := RC.frozen 8
      have HF2 := Hid.mk ((((Fr.refl (fun q => q = gC) y).setCell (p := ⟨gC, 2, none⟩) (Or.inl rfl) (str dd)).setCell (p := ⟨gC, 0, none⟩) (Or.inl rfl) (.int .i64 er)).setCell (p := ⟨gC, 1, none⟩) (Or.inl rfl) (.int .i64 (dd.length : Nat)))
      have HC2 : Hid (Arr (((y.setCell ⟨gC, 2, none⟩ (str dd)).setCell ⟨gC, 0, none⟩ (.int .i64 er)).setCell ⟨gC, 1, none⟩ (.int .i64 (dd.length : Nat))) gC 34 [.int .i64 er, .int .i64 (dd.length : Nat), str dd, .int .i64 0, .int .i64 0, .int .i64 0, .int .i64 0, .int .i64 0, .slice none 0 0]) := Hid.mk (((RC.set 2 (str dd)).set 0 (.int .i64 er)).set 1 (.int .i64 (dd.length : Nat)))
      have HB2 : Hid (Arr (((y.setCell ⟨gC, 2, none⟩ (str dd)).setCell ⟨gC, 0, none⟩ (.int .i64 er)).setCell ⟨gC, 1, none⟩ (.int .i64 (dd.length : Nat))) gB 34 zeroC) := Hid.mk (((((Fr.refl (fun q => q = gC) y).setCell (p := ⟨gC, 2, none⟩) (Or.inl rfl) (str dd)).setCell (p := ⟨gC, 0, none⟩) (Or.inl rfl) (.int .i64 er)).setCell (p := ⟨gC, 1, none⟩) (Or.inl rfl) (.int .i64 (dd.length : Nat))).arr HBC.out.2.2 RB)
      have HST := Hid.mk st
      have HV1 := Hid.mk V1
      clear RB RC V1 st))
  go_upto_region 52 with fail
  generalize (((y.setCell ⟨gC, 2, none⟩ (str dd)).setCell ⟨gC, 0, none⟩ (.int .i64 er)).setCell ⟨gC, 1, none⟩ (.int .i64 (dd.length : Nat))) = Y at *
  clear t0 z0 t1 z1 t2 z2 t3 z3 t4 z4 t5 z5 t6 z6 t7 z7 t8 z8
  have t0 : Y.cell? ⟨gC, 0, none⟩ = some (.int .i64 er) := HC2.out.cell 0
  have t1 : Y.cell? ⟨gC, 1, none⟩ = some (.int .i64 (dd.length : Nat)) := HC2.out.cell 1
  have t2 : Y.cell? ⟨gC, 2, none⟩ = some (str dd) := HC2.out.cell 2
  have t3 : Y.cell? ⟨gC, 3, none⟩ = some (.int .i64 0) := HC2.out.cell 3
  have t4 : Y.cell? ⟨gC, 4, none⟩ = some (.int .i64 0) := HC2.out.cell 4
  have t5 : Y.cell? ⟨gC, 5, none⟩ = some (.int .i64 0) := HC2.out.cell 5
  have t6 : Y.cell? ⟨gC, 6, none⟩ = some (.int .i64 0) := HC2.out.cell 6
  have t7 : Y.cell? ⟨gC, 7, none⟩ = some (.int .i64 0) := HC2.out.cell 7
  have t8 : Y.cell? ⟨gC, 8, none⟩ = some (.slice none 0 0) := HC2.out.cell 8
  have b0 : Y.cell? ⟨gB, 0, none⟩ = some (.int .i64 0) := HB2.out.cell 0
  have b1 : Y.cell? ⟨gB, 1, none⟩ = some (.int .i64 0) := HB2.out.cell 1
  have b2 : Y.cell? ⟨gB, 2, none⟩ = some (str []) := HB2.out.cell 2
  have b3 : Y.cell? ⟨gB, 3, none⟩ = some (.int .i64 0) := HB2.out.cell 3
  have b4 : Y.cell? ⟨gB, 4, none⟩ = some (.int .i64 0) := HB2.out.cell 4
  have b5 : Y.cell? ⟨gB, 5, none⟩ = some (.int .i64 0) := HB2.out.cell 5
  have b6 : Y.cell? ⟨gB, 6, none⟩ = some (.int .i64 0) := HB2.out.cell 6
  have b7 : Y.cell? ⟨gB, 7, none⟩ = some (.int .i64 0) := HB2.out.cell 7
  have b8 : Y.cell? ⟨gB, 8, none⟩ = some (.slice none 0 0) := HB2.out.cell 8
  have y0 := HB2.out.frozen 0
  have y1 := HB2.out.frozen 1
  have y2 := HB2.out.frozen 2
  have y3 := HB2.out.frozen 3
  have y4 := HB2.out.frozen 4
  have y5 := HB2.out.frozen 5
  have y6 := HB2.out.frozen 6
  have y7 := HB2.out.frozen 7
  have y8 := HB2.out.frozen 8
  have HFR := Hid.mk (((((((((((HF2.out.mono (fun q _ e => Or.inr e) : Fr (fun q => q = gB ∨ q = gC) y Y)).setCell (p := ⟨gB, 0, none⟩) (Or.inl (Or.inl rfl)) (.int .i64 er)).setCell (p := ⟨gB, 1, none⟩) (Or.inl (Or.inl rfl)) (.int .i64 (dd.length : Nat))).setCell (p := ⟨gB, 2, none⟩) (Or.inl (Or.inl rfl)) (str dd)).setCell (p := ⟨gB, 3, none⟩) (Or.inl (Or.inl rfl)) (.int .i64 0)).setCell (p := ⟨gB, 4, none⟩) (Or.inl (Or.inl rfl)) (.int .i64 0)).setCell (p := ⟨gB, 5, none⟩) (Or.inl (Or.inl rfl)) (.int .i64 0)).setCell (p := ⟨gB, 6, none⟩) (Or.inl (Or.inl rfl)) (.int .i64 0)).setCell (p := ⟨gB, 7, none⟩) (Or.inl (Or.inl rfl)) (.int .i64 0)).setCell (p := ⟨gB, 8, none⟩) (Or.inl (Or.inl rfl)) (.slice none 0 0))
  have HAZ := Hid.mk ((((((((((HB2.out).set 0 (.int .i64 er)).set 1 (.int .i64 (dd.length : Nat))).set 2 (str dd)).set 3 (.int .i64 0)).set 4 (.int .i64 0)).set 5 (.int .i64 0)).set 6 (.int .i64 0)).set 7 (.int .i64 0)).set 8 (.slice none 0 0))
  clear HF2 HC2 HB2
  go_wp2_with fail
  refine bodyPost_ret (v := .agg (ansC ⟨er, (dd.length : Nat), dd, sta0, []⟩ (.slice none 0 0)).toArray) (results_cell_row1 rfl _ _ gB 34 _ (0, 0) _ rfl HAZ.out Try.underlying34 rfl s34) rfl ?_
  exact PlayP.fin (s' := s) HH.out HTK.out HV1.out HST.out (by rw [hgA]; exact HBC.out.1) (by rw [hgA]; exact HBC.out.2.1) (OwnS.nil _ _ _ _ _) HFR.out
set_option maxRecDepth 6000 in
set_option maxHeartbeats 8000000 in
theorem play5 {B gw gf gt k : Nat} {fp : Nat → Prop} {w : World} {s : Stt} (o : OpV) (hK : o.kind = 5) (h : WW B fp w gw gf gt s) (si : SI k s.u s.hs s.T) (hk : k ≤ 70000) (hp : o.path.length ≤ 100000) (hp2 : o.path2.length ≤ 100000) (hdt : o.data.length ≤ 100000) :
    Calls Try.prog 14 #[.pointer (some ⟨gw, 0, none⟩), .agg (opC o).toArray] w fun e w' => PlayP B fp w gw gf gt ⟨(wrF s.u s.hs s.T o.h o.data).2.2.2, (wrF s.u s.hs s.T o.h o.data).2.2.1, [], sta0, []⟩ ⟨s.u, (wrF s.u s.hs s.T o.h o.data).1, (wrF s.u s.hs s.T o.h o.data).2.1⟩ e w' := by
  obtain ⟨ok, oh, ofl, omo, on, oo, owh, op, op2, od⟩ := o
  simp only at hK hp hp2 hdt
  subst hK
  have TH : Three w (((w.alloc (.cells #[.int .i64 5, .int .i64 oh, .int .i64 ofl, .int .i64 omo, .int .i64 on, .int .i64 oo, .int .i64 owh, str op, str op2, str od] 37)).alloc (.cells #[.int .i64 0, .int .i64 0, str [], .int .i64 0, .int .i64 0, .int .i64 0, .int .i64 0, .int .i64 0, .slice none 0 0] 34)).alloc (.cells #[.int .i64 0, .int .i64 0, str [], .int .i64 0, .int .i64 0, .int .i64 0, .int .i64 0, .int .i64 0, .slice none 0 0] 34)) gw gf gt ⟨5, oh, ofl, omo, on, oo, owh, op, op2, od⟩ := Three.mk' h ⟨5, oh, ofl, omo, on, oo, owh, op, op2, od⟩
  have CC := fun W (k1 : Keep w W) => vWrite_c B gf gt s.u oh od fp s.hs s.T W (h.v.keep k1) si.h.node si.h.file (si.lim (by omega)).ok.len (by have := si.t.ub; omega) (fun i _ => by have := si.t.data i; omega) (fun n hn => by have := si.h.off n hn; omega) hdt
  generalize wrF s.u s.hs s.T oh od = X at *
  obtain ⟨hs', T', nn, er⟩ := X
  simp only at CC ⊢
  have HCC := Hid.mk CC
  have HH := Hid.mk h
  have a0 : (((w.alloc (.cells #[.int .i64 5, .int .i64 oh, .int .i64 ofl, .int .i64 omo, .int .i64 on, .int .i64 oo, .int .i64 owh, str op, str op2, str od] 37)).alloc (.cells #[.int .i64 0, .int .i64 0, str [], .int .i64 0, .int .i64 0, .int .i64 0, .int .i64 0, .int .i64 0, .slice none 0 0] 34)).alloc (.cells #[.int .i64 0, .int .i64 0, str [], .int .i64 0, .int .i64 0, .int .i64 0, .int .i64 0, .int .i64 0, .slice none 0 0] 34)).cell? ⟨w.heap.size, 0, none⟩ = some (.int .i64 5) := TH.a.cell 0
  clear CC si
  change Calls Try.prog 14 #[.pointer (some ⟨gw, 0, none⟩), .agg #[.int .i64 5, .int .i64 oh, .int .i64 ofl, .int .i64 omo, .int .i64 on, .int .i64 oo, .int .i64 owh, str op, str op2, str od]] w _
  go_enter Try.func14, Try.ntmps14
  go_upto_region 18 with fail
  generalize ((w.alloc (.cells #[.int .i64 5, .int .i64 oh, .int .i64 ofl, .int .i64 omo, .int .i64 on, .int .i64 oo, .int .i64 owh, str op, str op2, str od] 37)).alloc (.cells #[.int .i64 0, .int .i64 0, str [], .int .i64 0, .int .i64 0, .int .i64 0, .int .i64 0, .int .i64 0, .slice none 0 0] 34)).alloc (.cells #[.int .i64 0, .int .i64 0, str [], .int .i64 0, .int .i64 0, .int .i64 0, .int .i64 0, .int .i64 0, .slice none 0 0] 34) = w1 at *
  have p0 : w1.cell? ⟨gw, 1, none⟩ = some (.pointer (some ⟨gf, 0, none⟩)) := TH.ww.cell 1
  have a1 : w1.cell? ⟨w.heap.size, 1, none⟩ = some (.int .i64 oh) := TH.a.cell 1
  have a9 : w1.cell? ⟨w.heap.size, 9, none⟩ = some (str od) := TH.a.cell 9
  have hgw : gw ≠ w.heap.size + 1 + 1 := by have := h.arr.lt; omega
  have HS := Hid.mk (fun y fp1 (st : Stp (fpV fp gf) (fpV fp1 gf) w1.drew y) => TH.stp h st)
  have HSS : Hid (∀ y fp1, Stp (fpV fp gf) (fpV fp1 gf) w1.drew y → (fun W : World => W.cell? ⟨gw, 1, none⟩ = some (.pointer (some ⟨gf, 0, none⟩)) ∧ W.cell? ⟨w.heap.size, 1, none⟩ = some (.int .i64 oh) ∧ W.cell? ⟨w.heap.size, 9, none⟩ = some (str od)) y) := Hid.mk (fun y fp1 st => by
    obtain ⟨q1, q2, -, -⟩ := TH.stp h st
    exact ⟨q1.cell 1, q2.cell 1, q2.cell 9⟩)
  have HK : Hid (∀ W i v, (fun W : World => W.cell? ⟨gw, 1, none⟩ = some (.pointer (some ⟨gf, 0, none⟩)) ∧ W.cell? ⟨w.heap.size, 1, none⟩ = some (.int .i64 oh) ∧ W.cell? ⟨w.heap.size, 9, none⟩ = some (str od)) W → (fun W : World => W.cell? ⟨gw, 1, none⟩ = some (.pointer (some ⟨gf, 0, none⟩)) ∧ W.cell? ⟨w.heap.size, 1, none⟩ = some (.int .i64 oh) ∧ W.cell? ⟨w.heap.size, 9, none⟩ = some (str od)) (W.setCell ⟨w.heap.size + 1 + 1, i, none⟩ v)) := Hid.mk (fun W i v hS => by
    simp only at hS ⊢
    simpa only [cell_other hgw, cell_other (show w.heap.size ≠ w.heap.size + 1 + 1 by omega)] using hS)
  have HBC : Hid ((w.heap.size ≤ w.heap.size + 1 ∧ w.heap.size + 1 < w1.drew.heap.size) ∧ (w.heap.size ≤ w.heap.size + 1 + 1 ∧ w.heap.size + 1 + 1 < w1.drew.heap.size) ∧ w.heap.size + 1 ≠ w.heap.size + 1 + 1) := Hid.mk ⟨⟨by omega, by show _ < w1.heap.size; rw [TH.sz]; omega⟩, ⟨by omega, by show _ < w1.heap.size; rw [TH.sz]; omega⟩, by omega⟩
  have HTK := Hid.mk TH.k.drew
  have S1 : (fun W : World => W.cell? ⟨gw, 1, none⟩ = some (.pointer (some ⟨gf, 0, none⟩)) ∧ W.cell? ⟨w.heap.size, 1, none⟩ = some (.int .i64 oh) ∧ W.cell? ⟨w.heap.size, 9, none⟩ = some (str od)) w1.drew := ⟨(Keep.refl w1).drew.cell p0, (Keep.refl w1).drew.cell a1, (Keep.refl w1).drew.cell a9⟩
  clear TH a0 hgw h
  generalize hgA : w.heap.size = gA at *
  generalize gA + 1 = gB at *
  generalize gB + 1 = gC at *
  go_region_held3 (fun W : World => W.cell? ⟨gw, 1, none⟩ = some (.pointer (some ⟨gf, 0, none⟩)) ∧ W.cell? ⟨gA, 1, none⟩ = some (.int .i64 oh) ∧ W.cell? ⟨gA, 9, none⟩ = some (str od))
    (with_reducible first | assumption | exact ⟨p0, a1, a9⟩ | exact S1 | exact S2 | exact HK.out _ _ _ S2 | exact HK.out _ _ _ (HK.out _ _ _ S2) | exact HK.out _ _ _ (HK.out _ _ _ (HK.out _ _ _ (HK.out _ _ _ (HK.out _ _ _ S2)))) | exact HK.out _ _ _ (HK.out _ _ _ (HK.out _ _ _ (HK.out _ _ _ (HK.out _ _ _ (HK.out _ _ _ S2))))))
    ((go_at_call 36; refine (HCC.out _ HTK.out).mono ?_; rintro x y ⟨fp1, rfl, V1, st⟩
      have S2 := HSS.out _ _ st
      obtain ⟨-, -, RB, RC⟩ := HS.out _ _ st
      have t0 : y.cell? ⟨gC, 0, none⟩ = some (.int .i64 0) := RC.cell 0
      have t1 : y.cell? ⟨gC, 1, none⟩ = some (.int .i64 0) := RC.cell 1
      have t2 : y.cell? ⟨gC, 2, none⟩ = some (str []) := RC.cell 2
      have t3 : y.cell? ⟨gC, 3, none⟩ = some (.int .i64 0) := RC.cell 3
      have t4 : y.cell? ⟨gC, 4, none⟩ = some (.int .i64 0) := RC.cell 4
      have t5 : y.cell? ⟨gC, 5, none⟩ = some (.int .i64 0) := RC.cell 5
      have t6 : y.cell? ⟨gC, 6, none⟩ = some (.int .i64 0) := RC.cell 6
      have t7 : y.cell? ⟨gC, 7, none⟩ = some (.int .i64 0) := RC.cell 7
      have t8 : y.cell? ⟨gC, 8, none⟩ = some (.slice none 0 0) := RC.cell 8
      have z0 := RC.frozen 0
      have z1 := RC.frozen 1
      have z2 := RC.frozen 2
      have z3 := RC.frozen 3
      have z4 := RC.frozen 4
      have z5 := RC.frozen 5
      have z6 := RC.frozen 6
      have z7 := RC.frozen 7
      have z8 := RC.frozen 8
      have HF2 := Hid.mk (((Fr.refl (fun q => q = gC) y).setCell (p := ⟨gC, 1, none⟩) (Or.inl rfl) (.int .i64 nn)).setCell (p := ⟨gC, 0, none⟩) (Or.inl rfl) (.int .i64 er))
      have HC2 : Hid (Arr ((y.setCell ⟨gC, 1, none⟩ (.int .i64 nn)).setCell ⟨gC, 0, none⟩ (.int .i64 er)) gC 34 [.int .i64 er, .int .i64 nn, str [], .int .i64 0, .int .i64 0, .int .i64 0, .int .i64 0, .int .i64 0, .slice none 0 0]) := Hid.mk ((RC.set 1 (.int .i64 nn)).set 0 (.int .i64 er))
      have HB2 : Hid (Arr ((y.setCell ⟨gC, 1, none⟩ (.int .i64 nn)).setCell ⟨gC, 0, none⟩ (.int .i64 er)) gB 34 zeroC) := Hid.mk ((((Fr.refl (fun q => q = gC) y).setCell (p := ⟨gC, 1, none⟩) (Or.inl rfl) (.int .i64 nn)).setCell (p := ⟨gC, 0, none⟩) (Or.inl rfl) (.int .i64 er)).arr HBC.out.2.2 RB)
      have HST := Hid.mk st
      have HV1 := Hid.mk V1
      clear RB RC V1 st))
  go_upto_region 52 with fail
  generalize ((y.setCell ⟨gC, 1, none⟩ (.int .i64 nn)).setCell ⟨gC, 0, none⟩ (.int .i64 er)) = Y at *
  clear t0 z0 t1 z1 t2 z2 t3 z3 t4 z4 t5 z5 t6 z6 t7 z7 t8 z8
  have t0 : Y.cell? ⟨gC, 0, none⟩ = some (.int .i64 er) := HC2.out.cell 0
  have t1 : Y.cell? ⟨gC, 1, none⟩ = some (.int .i64 nn) := HC2.out.cell 1
  have t2 : Y.cell? ⟨gC, 2, none⟩ = some (str []) := HC2.out.cell 2
  have t3 : Y.cell? ⟨gC, 3, none⟩ = some (.int .i64 0) := HC2.out.cell 3
  have t4 : Y.cell? ⟨gC, 4, none⟩ = some (.int .i64 0) := HC2.out.cell 4
  have t5 : Y.cell? ⟨gC, 5, none⟩ = some (.int .i64 0) := HC2.out.cell 5
  have t6 : Y.cell? ⟨gC, 6, none⟩ = some (.int .i64 0) := HC2.out.cell 6
  have t7 : Y.cell? ⟨gC, 7, none⟩ = some (.int .i64 0) := HC2.out.cell 7
  have t8 : Y.cell? ⟨gC, 8, none⟩ = some (.slice none 0 0) := HC2.out.cell 8
  have b0 : Y.cell? ⟨gB, 0, none⟩ = some (.int .i64 0) := HB2.out.cell 0
  have b1 : Y.cell? ⟨gB, 1, none⟩ = some (.int .i64 0) := HB2.out.cell 1
  have b2 : Y.cell? ⟨gB, 2, none⟩ = some (str []) := HB2.out.cell 2
  have b3 : Y.cell? ⟨gB, 3, none⟩ = some (.int .i64 0) := HB2.out.cell 3
  have b4 : Y.cell? ⟨gB, 4, none⟩ = some (.int .i64 0) := HB2.out.cell 4
  have b5 : Y.cell? ⟨gB, 5, none⟩ = some (.int .i64 0) := HB2.out.cell 5
  have b6 : Y.cell? ⟨gB, 6, none⟩ = some (.int .i64 0) := HB2.out.cell 6
  have b7 : Y.cell? ⟨gB, 7, none⟩ = some (.int .i64 0) := HB2.out.cell 7
  have b8 : Y.cell? ⟨gB, 8, none⟩ = some (.slice none 0 0) := HB2.out.cell 8
  have y0 := HB2.out.frozen 0
  have y1 := HB2.out.frozen 1
  have y2 := HB2.out.frozen 2
  have y3 := HB2.out.frozen 3
  have y4 := HB2.out.frozen 4
  have y5 := HB2.out.frozen 5
  have y6 := HB2.out.frozen 6
  have y7 := HB2.out.frozen 7
  have y8 := HB2.out.frozen 8
  have HFR := Hid.mk (((((((((((HF2.out.mono (fun q _ e => Or.inr e) : Fr (fun q => q = gB ∨ q = gC) y Y)).setCell (p := ⟨gB, 0, none⟩) (Or.inl (Or.inl rfl)) (.int .i64 er)).setCell (p := ⟨gB, 1, none⟩) (Or.inl (Or.inl rfl)) (.int .i64 nn)).setCell (p := ⟨gB, 2, none⟩) (Or.inl (Or.inl rfl)) (str [])).setCell (p := ⟨gB, 3, none⟩) (Or.inl (Or.inl rfl)) (.int .i64 0)).setCell (p := ⟨gB, 4, none⟩) (Or.inl (Or.inl rfl)) (.int .i64 0)).setCell (p := ⟨gB, 5, none⟩) (Or.inl (Or.inl rfl)) (.int .i64 0)).setCell (p := ⟨gB, 6, none⟩) (Or.inl (Or.inl rfl)) (.int .i64 0)).setCell (p := ⟨gB, 7, none⟩) (Or.inl (Or.inl rfl)) (.int .i64 0)).setCell (p := ⟨gB, 8, none⟩) (Or.inl (Or.inl rfl)) (.slice none 0 0))
  have HAZ := Hid.mk ((((((((((HB2.out).set 0 (.int .i64 er)).set 1 (.int .i64 nn)).set 2 (str [])).set 3 (.int .i64 0)).set 4 (.int .i64 0)).set 5 (.int .i64 0)).set 6 (.int .i64 0)).set 7 (.int .i64 0)).set 8 (.slice none 0 0))
  clear HF2 HC2 HB2
  go_wp2_with fail
  refine bodyPost_ret (v := .agg (ansC ⟨er, nn, [], sta0, []⟩ (.slice none 0 0)).toArray) (results_cell_row1 rfl _ _ gB 34 _ (0, 0) _ rfl HAZ.out Try.underlying34 rfl s34) rfl ?_
  exact PlayP.fin (s' := ⟨s.u, hs', T'⟩) HH.out HTK.out HV1.out HST.out (by rw [hgA]; exact HBC.out.1) (by rw [hgA]; exact HBC.out.2.1) (OwnS.nil _ _ _ _ _) HFR.out
set_option maxRecDepth 6000 in
set_option maxHeartbeats 8000000 in
theorem play6 {B gw gf gt k : Nat} {fp : Nat → Prop} {w : World} {s : Stt} (o : OpV) (hK : o.kind = 6) (h : WW B fp w gw gf gt s) (si : SI k s.u s.hs s.T) (hk : k ≤ 70000) (hp : o.path.length ≤ 100000) (hp2 : o.path2.length ≤ 100000) (hdt : o.data.length ≤ 100000) :
    Calls Try.prog 14 #[.pointer (some ⟨gw, 0, none⟩), .agg (opC o).toArray] w fun e w' => PlayP B fp w gw gf gt ⟨(skF s.u s.hs s.T o.h o.off o.wh).2.2, (skF s.u s.hs s.T o.h o.off o.wh).2.1, [], sta0, []⟩ ⟨s.u, (skF s.u s.hs s.T o.h o.off o.wh).1, s.T⟩ e w' := by
  obtain ⟨ok, oh, ofl, omo, on, oo, owh, op, op2, od⟩ := o
  simp only at hK hp hp2 hdt
  subst hK
  have TH : Three w (((w.alloc (.cells #[.int .i64 6, .int .i64 oh, .int .i64 ofl, .int .i64 omo, .int .i64 on, .int .i64 oo, .int .i64 owh, str op, str op2, str od] 37)).alloc (.cells #[.int .i64 0, .int .i64 0, str [], .int .i64 0, .int .i64 0, .int .i64 0, .int .i64 0, .int .i64 0, .slice none 0 0] 34)).alloc (.cells #[.int .i64 0, .int .i64 0, str [], .int .i64 0, .int .i64 0, .int .i64 0, .int .i64 0, .int .i64 0, .slice none 0 0] 34)) gw gf gt ⟨6, oh, ofl, omo, on, oo, owh, op, op2, od⟩ := Three.mk' h ⟨6, oh, ofl, omo, on, oo, owh, op, op2, od⟩
  have CC := fun W (k1 : Keep w W) => vSeek_c B gf gt s.u oh oo owh fp s.hs s.T W (h.v.keep k1) si.h.node (fun i _ => si.size (by omega) i) (fun n hn => by have := si.h.off n hn; omega)
  generalize skF s.u s.hs s.T oh oo owh = X at *
  obtain ⟨hs', nn, er⟩ := X
  simp only at CC ⊢
  have HCC := Hid.mk CC
  have HH := Hid.mk h
  have a0 : (((w.alloc (.cells #[.int .i64 6, .int .i64 oh, .int .i64 ofl, .int .i64 omo, .int .i64 on, .int .i64 oo, .int .i64 owh, str op, str op2, str od] 37)).alloc (.cells #[.int .i64 0, .int .i64 0, str [], .int .i64 0, .int .i64 0, .int .i64 0, .int .i64 0, .int .i64 0, .slice none 0 0] 34)).alloc (.cells #[.int .i64 0, .int .i64 0, str [], .int .i64 0, .int .i64 0, .int .i64 0, .int .i64 0, .int .i64 0, .slice none 0 0] 34)).cell? ⟨w.heap.size, 0, none⟩ = some (.int .i64 6) := TH.a.cell 0
  clear CC si
  change Calls Try.prog 14 #[.pointer (some ⟨gw, 0, none⟩), .agg #[.int .i64 6, .int .i64 oh, .int .i64 ofl, .int .i64 omo, .int .i64 on, .int .i64 oo, .int .i64 owh, str op, str op2, str od]] w _
  go_enter Try.func14, Try.ntmps14
  go_upto_region 20 with fail
  generalize ((w.alloc (.cells #[.int .i64 6, .int .i64 oh, .int .i64 ofl, .int .i64 omo, .int .i64 on, .int .i64 oo, .int .i64 owh, str op, str op2, str od] 37)).alloc (.cells #[.int .i64 0, .int .i64 0, str [], .int .i64 0, .int .i64 0, .int .i64 0, .int .i64 0, .int .i64 0, .slice none 0 0] 34)).alloc (.cells #[.int .i64 0, .int .i64 0, str [], .int .i64 0, .int .i64 0, .int .i64 0, .int .i64 0, .int .i64 0, .slice none 0 0] 34) = w1 at *
  have p0 : w1.cell? ⟨gw, 1, none⟩ = some (.pointer (some ⟨gf, 0, none⟩)) := TH.ww.cell 1
  have a1 : w1.cell? ⟨w.heap.size, 1, none⟩ = some (.int .i64 oh) := TH.a.cell 1
  have a5 : w1.cell? ⟨w.heap.size, 5, none⟩ = some (.int .i64 oo) := TH.a.cell 5
  have a6 : w1.cell? ⟨w.heap.size, 6, none⟩ = some (.int .i64 owh) := TH.a.cell 6
  have hgw : gw ≠ w.heap.size + 1 + 1 := by have := h.arr.lt; omega
  have HS := Hid.mk (fun y fp1 (st : Stp (fpV fp gf) (fpV fp1 gf) w1.drew y) => TH.stp h st)
  have HSS : Hid (∀ y fp1, Stp (fpV fp gf) (fpV fp1 gf) w1.drew y → (fun W : World => W.cell? ⟨gw, 1, none⟩ = some (.pointer (some ⟨gf, 0, none⟩)) ∧ W.cell? ⟨w.heap.size, 1, none⟩ = some (.int .i64 oh) ∧ W.cell? ⟨w.heap.size, 5, none⟩ = some (.int .i64 oo) ∧ W.cell? ⟨w.heap.size, 6, none⟩ = some (.int .i64 owh)) y) := Hid.mk (fun y fp1 st => by
    obtain ⟨q1, q2, -, -⟩ := TH.stp h st
    exact ⟨q1.cell 1, q2.cell 1, q2.cell 5, q2.cell 6⟩)
  have HK : Hid (∀ W i v, (fun W : World => W.cell? ⟨gw, 1, none⟩ = some (.pointer (some ⟨gf, 0, none⟩)) ∧ W.cell? ⟨w.heap.size, 1, none⟩ = some (.int .i64 oh) ∧ W.cell? ⟨w.heap.size, 5, none⟩ = some (.int .i64 oo) ∧ W.cell? ⟨w.heap.size, 6, none⟩ = some (.int .i64 owh)) W → (fun W : World => W.cell? ⟨gw, 1, none⟩ = some (.pointer (some ⟨gf, 0, none⟩)) ∧ W.cell? ⟨w.heap.size, 1, none⟩ = some (.int .i64 oh) ∧ W.cell? ⟨w.heap.size, 5, none⟩ = some (.int .i64 oo) ∧ W.cell? ⟨w.heap.size, 6, none⟩ = some (.int .i64 owh)) (W.setCell ⟨w.heap.size + 1 + 1, i, none⟩ v)) := Hid.mk (fun W i v hS => by
    simp only at hS ⊢
    simpa only [cell_other hgw, cell_other (show w.heap.size ≠ w.heap.size + 1 + 1 by omega)] using hS)
  have HBC : Hid ((w.heap.size ≤ w.heap.size + 1 ∧ w.heap.size + 1 < w1.drew.heap.size) ∧ (w.heap.size ≤ w.heap.size + 1 + 1 ∧ w.heap.size + 1 + 1 < w1.drew.heap.size) ∧ w.heap.size + 1 ≠ w.heap.size + 1 + 1) := Hid.mk ⟨⟨by omega, by show _ < w1.heap.size; rw [TH.sz]; omega⟩, ⟨by omega, by show _ < w1.heap.size; rw [TH.sz]; omega⟩, by omega⟩
  have HTK := Hid.mk TH.k.drew
  have S1 : (fun W : World => W.cell? ⟨gw, 1, none⟩ = some (.pointer (some ⟨gf, 0, none⟩)) ∧ W.cell? ⟨w.heap.size, 1, none⟩ = some (.int .i64 oh) ∧ W.cell? ⟨w.heap.size, 5, none⟩ = some (.int .i64 oo) ∧ W.cell? ⟨w.heap.size, 6, none⟩ = some (.int .i64 owh)) w1.drew := ⟨(Keep.refl w1).drew.cell p0, (Keep.refl w1).drew.cell a1, (Keep.refl w1).drew.cell a5, (Keep.refl w1).drew.cell a6⟩
  clear TH a0 hgw h
  generalize hgA : w.heap.size = gA at *
  generalize gA + 1 = gB at *
  generalize gB + 1 = gC at *
  go_region_held3 (fun W : World => W.cell? ⟨gw, 1, none⟩ = some (.pointer (some ⟨gf, 0, none⟩)) ∧ W.cell? ⟨gA, 1, none⟩ = some (.int .i64 oh) ∧ W.cell? ⟨gA, 5, none⟩ = some (.int .i64 oo) ∧ W.cell? ⟨gA, 6, none⟩ = some (.int .i64 owh))
    (with_reducible first | assumption | exact ⟨p0, a1, a5, a6⟩ | exact S1 | exact S2 | exact HK.out _ _ _ S2 | exact HK.out _ _ _ (HK.out _ _ _ S2) | exact HK.out _ _ _ (HK.out _ _ _ (HK.out _ _ _ (HK.out _ _ _ (HK.out _ _ _ S2)))) | exact HK.out _ _ _ (HK.out _ _ _ (HK.out _ _ _ (HK.out _ _ _ (HK.out _ _ _ (HK.out _ _ _ S2))))))
    ((go_at_call 31; refine (HCC.out _ HTK.out).mono ?_; rintro x y ⟨fp1, rfl, V1, st⟩
      have S2 := HSS.out _ _ st
      obtain ⟨-, -, RB, RC⟩ := HS.out _ _ st
      have t0 : y.cell? ⟨gC, 0, none⟩ = some (.int .i64 0) := RC.cell 0
      have t1 : y.cell? ⟨gC, 1, none⟩ = some (.int .i64 0) := RC.cell 1
      have t2 : y.cell? ⟨gC, 2, none⟩ = some (str []) := RC.cell 2
      have t3 : y.cell? ⟨gC, 3, none⟩ = some (.int .i64 0) := RC.cell 3
      have t4 : y.cell? ⟨gC, 4, none⟩ = some (.int .i64 0) := RC.cell 4
      have t5 : y.cell? ⟨gC, 5, none⟩ = some (.int .i64 0) := RC.cell 5
      have t6 : y.cell? ⟨gC, 6, none⟩ = some (.int .i64 0) := RC.cell 6
      have t7 : y.cell? ⟨gC, 7, none⟩ = some (.int .i64 0) := RC.cell 7
      have t8 : y.cell? ⟨gC, 8, none⟩ = some (.slice none 0 0) := RC.cell 8
      have z0 := RC.frozen 0
      have z1 := RC.frozen 1
      have z2 := RC.frozen 2
      have z3 := RC.frozen 3
      have z4 := RC.frozen 4
      have z5 := RC.frozen 5
      have z6 := RC.frozen 6
      have z7 := RC.frozen 7
      have z8 := RC.frozen 8
      have HF2 := Hid.mk (((Fr.refl (fun q => q = gC) y).setCell (p := ⟨gC, 1, none⟩) (Or.inl rfl) (.int .i64 nn)).setCell (p := ⟨gC, 0, none⟩) (Or.inl rfl) (.int .i64 er))
      have HC2 : Hid (Arr ((y.setCell ⟨gC, 1, none⟩ (.int .i64 nn)).setCell ⟨gC, 0, none⟩ (.int .i64 er)) gC 34 [.int .i64 er, .int .i64 nn, str [], .int .i64 0, .int .i64 0, .int .i64 0, .int .i64 0, .int .i64 0, .slice none 0 0]) := Hid.mk ((RC.set 1 (.int .i64 nn)).set 0 (.int .i64 er))
      have HB2 : Hid (Arr ((y.setCell ⟨gC, 1, none⟩ (.int .i64 nn)).setCell ⟨gC, 0, none⟩ (.int .i64 er)) gB 34 zeroC) := Hid.mk ((((Fr.refl (fun q => q = gC) y).setCell (p := ⟨gC, 1, none⟩) (Or.inl rfl) (.int .i64 nn)).setCell (p := ⟨gC, 0, none⟩) (Or.inl rfl) (.int .i64 er)).arr HBC.out.2.2 RB)
      have HST := Hid.mk st
      have HV1 := Hid.mk V1
      clear RB RC V1 st))
  go_upto_region 52 with fail
  generalize ((y.setCell ⟨gC, 1, none⟩ (.int .i64 nn)).setCell ⟨gC, 0, none⟩ (.int .i64 er)) = Y at *
  clear t0 z0 t1 z1 t2 z2 t3 z3 t4 z4 t5 z5 t6 z6 t7 z7 t8 z8
  have t0 : Y.cell? ⟨gC, 0, none⟩ = some (.int .i64 er) := HC2.out.cell 0
  have t1 : Y.cell? ⟨gC, 1, none⟩ = some (.int .i64 nn) := HC2.out.cell 1
  have t2 : Y.cell? ⟨gC, 2, none⟩ = some (str []) := HC2.out.cell 2
  have t3 : Y.cell? ⟨gC, 3, none⟩ = some (.int .i64 0) := HC2.out.cell 3
  have t4 : Y.cell? ⟨gC, 4, none⟩ = some (.int .i64 0) := HC2.out.cell 4
  have t5 : Y.cell? ⟨gC, 5, none⟩ = some (.int .i64 0) := HC2.out.cell 5
  have t6 : Y.cell? ⟨gC, 6, none⟩ = some (.int .i64 0) := HC2.out.cell 6
  have t7 : Y.cell? ⟨gC, 7, none⟩ = some (.int .i64 0) := HC2.out.cell 7
  have t8 : Y.cell? ⟨gC, 8, none⟩ = some (.slice none 0 0) := HC2.out.cell 8
  have b0 : Y.cell? ⟨gB, 0, none⟩ = some (.int .i64 0) := HB2.out.cell 0
  have b1 : Y.cell? ⟨gB, 1, none⟩ = some (.int .i64 0) := HB2.out.cell 1
  have b2 : Y.cell? ⟨gB, 2, none⟩ = some (str []) := HB2.out.cell 2
  have b3 : Y.cell? ⟨gB, 3, none⟩ = some (.int .i64 0) := HB2.out.cell 3
  have b4 : Y.cell? ⟨gB, 4, none⟩ = some (.int .i64 0) := HB2.out.cell 4
  have b5 : Y.cell? ⟨gB, 5, none⟩ = some (.int .i64 0) := HB2.out.cell 5
  have b6 : Y.cell? ⟨gB, 6, none⟩ = some (.int .i64 0) := HB2.out.cell 6
  have b7 : Y.cell? ⟨gB, 7, none⟩ = some (.int .i64 0) := HB2.out.cell 7
  have b8 : Y.cell? ⟨gB, 8, none⟩ = some (.slice none 0 0) := HB2.out.cell 8
  have y0 := HB2.out.frozen 0
  have y1 := HB2.out.frozen 1
  have y2 := HB2.out.frozen 2
  have y3 := HB2.out.frozen 3
  have y4 := HB2.out.frozen 4
  have y5 := HB2.out.frozen 5
  have y6 := HB2.out.frozen 6
  have y7 := HB2.out.frozen 7
  have y8 := HB2.out.frozen 8
  have HFR := Hid.mk (((((((((((HF2.out.mono (fun q _ e => Or.inr e) : Fr (fun q => q = gB ∨ q = gC) y Y)).setCell (p := ⟨gB, 0, none⟩) (Or.inl (Or.inl rfl)) (.int .i64 er)).setCell (p := ⟨gB, 1, none⟩) (Or.inl (Or.inl rfl)) (.int .i64 nn)).setCell (p := ⟨gB, 2, none⟩) (Or.inl (Or.inl rfl)) (str [])).setCell (p := ⟨gB, 3, none⟩) (Or.inl (Or.inl rfl)) (.int .i64 0)).setCell (p := ⟨gB, 4, none⟩) (Or.inl (Or.inl rfl)) (.int .i64 0)).setCell (p := ⟨gB, 5, none⟩) (Or.inl (Or.inl rfl)) (.int .i64 0)).setCell (p := ⟨gB, 6, none⟩) (Or.inl (Or.inl rfl)) (.int .i64 0)).setCell (p := ⟨gB, 7, none⟩) (Or.inl (Or.inl rfl)) (.int .i64 0)).setCell (p := ⟨gB, 8, none⟩) (Or.inl (Or.inl rfl)) (.slice none 0 0))
  have HAZ := Hid.mk ((((((((((HB2.out).set 0 (.int .i64 er)).set 1 (.int .i64 nn)).set 2 (str [])).set 3 (.int .i64 0)).set 4 (.int .i64 0)).set 5 (.int .i64 0)).set 6 (.int .i64 0)).set 7 (.int .i64 0)).set 8 (.slice none 0 0))
  clear HF2 HC2 HB2
  go_wp2_with fail
  refine bodyPost_ret (v := .agg (ansC ⟨er, nn, [], sta0, []⟩ (.slice none 0 0)).toArray) (results_cell_row1 rfl _ _ gB 34 _ (0, 0) _ rfl HAZ.out Try.underlying34 rfl s34) rfl ?_
  exact PlayP.fin (s' := ⟨s.u, hs', s.T⟩) HH.out HTK.out HV1.out HST.out (by rw [hgA]; exact HBC.out.1) (by rw [hgA]; exact HBC.out.2.1) (OwnS.nil _ _ _ _ _) HFR.out
end Go.Proofs.Qxb6500767a
