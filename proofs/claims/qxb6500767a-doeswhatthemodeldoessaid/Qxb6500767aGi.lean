/- unionvfslaw: play, other kinds. -/
import Derived.Test.Qxb6500767aFq
namespace Go.Proofs.Qxb6500767a
open Go.RowKit Go.Qm
set_option linter.unusedVariables false
set_option linter.unusedSimpArgs false
attribute [local go_sem ↓] Go.wp_at_zero Go.wp_at_succ
set_option maxRecDepth 6000 in
set_option maxHeartbeats 8000000 in
theorem play0 {B gw gf gt : Nat} {fp : Nat → Prop} {w : World} {s : Stt} (o : OpV) (hK : o.kind < 1 ∨ 21 < o.kind) (h : WW B fp w gw gf gt s) :
    Calls Try.prog 14 #[.pointer (some ⟨gw, 0, none⟩), .agg (opC o).toArray] w fun e w' => PlayP B fp w gw gf gt ⟨2, 0, [], sta0, []⟩ s e w' := by
  obtain ⟨ok, oh, ofl, omo, on, oo, owh, op, op2, od⟩ := o
  simp only at hK
  have TH : Three w (((w.alloc (.cells #[.int .i64 ok, .int .i64 oh, .int .i64 ofl, .int .i64 omo, .int .i64 on, .int .i64 oo, .int .i64 owh, str op, str op2, str od] 37)).alloc (.cells #[.int .i64 0, .int .i64 0, str [], .int .i64 0, .int .i64 0, .int .i64 0, .int .i64 0, .int .i64 0, .slice none 0 0] 34)).alloc (.cells #[.int .i64 0, .int .i64 0, str [], .int .i64 0, .int .i64 0, .int .i64 0, .int .i64 0, .int .i64 0, .slice none 0 0] 34)) gw gf gt ⟨ok, oh, ofl, omo, on, oo, owh, op, op2, od⟩ := Three.mk' h ⟨ok, oh, ofl, omo, on, oo, owh, op, op2, od⟩
  have k1 : (ok == 1) = false := by simp; omega
  have k2 : (ok == 2) = false := by simp; omega
  have k3 : (ok == 3) = false := by simp; omega
  have k4 : (ok == 4) = false := by simp; omega
  have k5 : (ok == 5) = false := by simp; omega
  have k6 : (ok == 6) = false := by simp; omega
  have k7 : (ok == 7) = false := by simp; omega
  have k8 : (ok == 8) = false := by simp; omega
  have k9 : (ok == 9) = false := by simp; omega
  have k10 : (ok == 10) = false := by simp; omega
  have k11 : (ok == 11) = false := by simp; omega
  have k12 : (ok == 12) = false := by simp; omega
  have k13 : (ok == 13) = false := by simp; omega
  have k14 : (ok == 14) = false := by simp; omega
  have k15 : (ok == 15) = false := by simp; omega
  have k16 : (ok == 16) = false := by simp; omega
  have k17 : (ok == 17) = false := by simp; omega
  have k18 : (ok == 18) = false := by simp; omega
  have k19 : (ok == 19) = false := by simp; omega
  have k20 : (ok == 20) = false := by simp; omega
  have k21 : (ok == 21) = false := by simp; omega
  have HH := Hid.mk h
  have a0 : (((w.alloc (.cells #[.int .i64 ok, .int .i64 oh, .int .i64 ofl, .int .i64 omo, .int .i64 on, .int .i64 oo, .int .i64 owh, str op, str op2, str od] 37)).alloc (.cells #[.int .i64 0, .int .i64 0, str [], .int .i64 0, .int .i64 0, .int .i64 0, .int .i64 0, .int .i64 0, .slice none 0 0] 34)).alloc (.cells #[.int .i64 0, .int .i64 0, str [], .int .i64 0, .int .i64 0, .int .i64 0, .int .i64 0, .int .i64 0, .slice none 0 0] 34)).cell? ⟨w.heap.size, 0, none⟩ = some (.int .i64 ok) := TH.a.cell 0
  clear hK
  change Calls Try.prog 14 #[.pointer (some ⟨gw, 0, none⟩), .agg #[.int .i64 ok, .int .i64 oh, .int .i64 ofl, .int .i64 omo, .int .i64 on, .int .i64 oo, .int .i64 owh, str op, str op2, str od]] w _
  go_enter Try.func14, Try.ntmps14
  go_upto_region 3 with fail
  generalize ((w.alloc (.cells #[.int .i64 ok, .int .i64 oh, .int .i64 ofl, .int .i64 omo, .int .i64 on, .int .i64 oo, .int .i64 owh, str op, str op2, str od] 37)).alloc (.cells #[.int .i64 0, .int .i64 0, str [], .int .i64 0, .int .i64 0, .int .i64 0, .int .i64 0, .int .i64 0, .slice none 0 0] 34)).alloc (.cells #[.int .i64 0, .int .i64 0, str [], .int .i64 0, .int .i64 0, .int .i64 0, .int .i64 0, .int .i64 0, .slice none 0 0] 34) = y at *
  have HBC : Hid ((w.heap.size ≤ w.heap.size + 1 ∧ w.heap.size + 1 < y.heap.size) ∧ (w.heap.size ≤ w.heap.size + 1 + 1 ∧ w.heap.size + 1 + 1 < y.heap.size) ∧ w.heap.size + 1 ≠ w.heap.size + 1 + 1) := Hid.mk ⟨⟨by omega, by rw [TH.sz]; omega⟩, ⟨by omega, by rw [TH.sz]; omega⟩, by omega⟩
  have HTK := Hid.mk TH.k
  have RB := TH.b
  have RC := TH.c
  clear TH h
  generalize hgA : w.heap.size = gA at *
  generalize gA + 1 = gB at *
  generalize gB + 1 = gC at *
  have t0 : y.cell? ⟨gC, 0, none⟩ = some (.int .i64 0) := RC.cell 0
  have z0 := RC.frozen 0
  have HF2 := Hid.mk ((Fr.refl (fun q => q = gC) y).setCell (p := ⟨gC, 0, none⟩) (Or.inl rfl) (.int .i64 2))
  have HC2 : Hid (Arr (y.setCell ⟨gC, 0, none⟩ (.int .i64 2)) gC 34 [.int .i64 2, .int .i64 0, str [], .int .i64 0, .int .i64 0, .int .i64 0, .int .i64 0, .int .i64 0, .slice none 0 0]) := Hid.mk (RC.set 0 (.int .i64 2))
  have HB2 : Hid (Arr (y.setCell ⟨gC, 0, none⟩ (.int .i64 2)) gB 34 zeroC) := Hid.mk (HF2.out.arr HBC.out.2.2 RB)
  clear RB RC
  go_upto_region 52 with fail
  generalize y.setCell ⟨gC, 0, none⟩ (.int .i64 2) = Y at *
  clear t0 z0
  have t0 : Y.cell? ⟨gC, 0, none⟩ = some (.int .i64 2) := HC2.out.cell 0
  have t1 : Y.cell? ⟨gC, 1, none⟩ = some (.int .i64 0) := HC2.out.cell 1
  have t2 : Y.cell? ⟨gC, 2, none⟩ = some (str []) := HC2.out.cell 2
  have t3 : Y.cell? ⟨gC, 3, none⟩ = some (.int .i64 0) := HC2.out.cell 3
  have t4 : Y.cell? ⟨gC, 4, none⟩ = some (.int .i64 0) := HC2.out.cell 4
  have t5 : Y.cell? ⟨gC, 5, none⟩ = some (.int .i64 0) := HC2.out.cell 5
  have t6 : Y.cell? ⟨gC, 6, none⟩ = some (.int .i64 0) := HC2.out.cell 6
  have t7 : Y.cell? ⟨gC, 7, none⟩ = some (.int .i64 0) := HC2.out.cell 7
  have t8 : Y.cell? ⟨gC, 8, none⟩ = some (.slice none 0 0) := HC2.out.cell 8
  have b0 : Y.cell? ⟨gB, 0, none⟩ = some (.int .i64 0) := HB2.out.cell 0
  have b1 : Y.cell? ⟨gB, 1, none⟩ = some (.int .i64 0) := HB2.out.cell 1
  have b2 : Y.cell? ⟨gB, 2, none⟩ = some (str []) := HB2.out.cell 2
  have b3 : Y.cell? ⟨gB, 3, none⟩ = some (.int .i64 0) := HB2.out.cell 3
  have b4 : Y.cell? ⟨gB, 4, none⟩ = some (.int .i64 0) := HB2.out.cell 4
  have b5 : Y.cell? ⟨gB, 5, none⟩ = some (.int .i64 0) := HB2.out.cell 5
  have b6 : Y.cell? ⟨gB, 6, none⟩ = some (.int .i64 0) := HB2.out.cell 6
  have b7 : Y.cell? ⟨gB, 7, none⟩ = some (.int .i64 0) := HB2.out.cell 7
  have b8 : Y.cell? ⟨gB, 8, none⟩ = some (.slice none 0 0) := HB2.out.cell 8
  have y0 := HB2.out.frozen 0
  have y1 := HB2.out.frozen 1
  have y2 := HB2.out.frozen 2
  have y3 := HB2.out.frozen 3
  have y4 := HB2.out.frozen 4
  have y5 := HB2.out.frozen 5
  have y6 := HB2.out.frozen 6
  have y7 := HB2.out.frozen 7
  have y8 := HB2.out.frozen 8
  have HFR := Hid.mk (((((((((((HF2.out.mono (fun q _ e => Or.inr e) : Fr (fun q => q = gB ∨ q = gC) y Y)).setCell (p := ⟨gB, 0, none⟩) (Or.inl (Or.inl rfl)) (.int .i64 2)).setCell (p := ⟨gB, 1, none⟩) (Or.inl (Or.inl rfl)) (.int .i64 0)).setCell (p := ⟨gB, 2, none⟩) (Or.inl (Or.inl rfl)) (str [])).setCell (p := ⟨gB, 3, none⟩) (Or.inl (Or.inl rfl)) (.int .i64 0)).setCell (p := ⟨gB, 4, none⟩) (Or.inl (Or.inl rfl)) (.int .i64 0)).setCell (p := ⟨gB, 5, none⟩) (Or.inl (Or.inl rfl)) (.int .i64 0)).setCell (p := ⟨gB, 6, none⟩) (Or.inl (Or.inl rfl)) (.int .i64 0)).setCell (p := ⟨gB, 7, none⟩) (Or.inl (Or.inl rfl)) (.int .i64 0)).setCell (p := ⟨gB, 8, none⟩) (Or.inl (Or.inl rfl)) (.slice none 0 0))
  have HAZ := Hid.mk ((((((((((HB2.out).set 0 (.int .i64 2)).set 1 (.int .i64 0)).set 2 (str [])).set 3 (.int .i64 0)).set 4 (.int .i64 0)).set 5 (.int .i64 0)).set 6 (.int .i64 0)).set 7 (.int .i64 0)).set 8 (.slice none 0 0))
  clear HF2 HC2 HB2
  go_wp2_with fail
  refine bodyPost_ret (v := .agg (ansC ⟨2, 0, [], sta0, []⟩ (.slice none 0 0)).toArray) (results_cell_row1 rfl _ _ gB 34 _ (0, 0) _ rfl HAZ.out Try.underlying34 rfl s34) rfl ?_
  exact PlayP.fin (s' := s) HH.out HTK.out (HH.out.v.keep HTK.out) (Stp.refl _ _) (by rw [hgA]; exact HBC.out.1) (by rw [hgA]; exact HBC.out.2.1) (OwnS.nil _ _ _ _ _) HFR.out
end Go.Proofs.Qxb6500767a
