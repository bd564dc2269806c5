/- blastlaw: step. -/
import Derived.Test.Qxb6500772aGs
namespace Go.Proofs.Qxb6500772a
open Go Go.RowKit Go.Qm
set_option linter.unusedVariables false
set_option linter.unusedSimpArgs false
attribute [local go_sem ↓] Go.wp_at_zero Go.wp_at_succ
set_option maxRecDepth 8000 in
set_option maxHeartbeats 4000000 in
theorem step_4 {B : Nat} {P : Nat → Prop} {w : World} {gb : Nat} {cv xv sv pv nv : Value} {cels : List Cel} {es : List NE} {ss : List NS} {bad : NE} {cu nx : List (Int × Nat)} {cf : Bool} {nf : Int} {k : Nat} {A Bf Cf D : Int} (h : BB B P w gb cv xv sv pv nv cels es ss bad cu nx cf nf) (hk : BdK k cels es ss cu nx) (hk2 : k ≤ 80000) (hA : I64 A) (hB : I64 Bf) (hC : I64 Cf) (hD : I64 D) : Calls Try.prog 22 #[.pointer (some ⟨gb, 0, none⟩), .agg #[.int .i64 4, .int .i64 A, .int .i64 Bf, .int .i64 Cf, .int .i64 D]] w (StepO B gb k w) := by
  obtain ⟨va, vc, hxv⟩ := OwnS.len h.oe
  obtain ⟨sa, sc, hsv⟩ := OwnS.len h.os
  obtain ⟨W, hW⟩ : ∃ W, W = w.alloc (.cells #[.int .i64 4, .int .i64 A, .int .i64 Bf, .int .i64 Cf, .int .i64 D] 81) := ⟨_, rfl⟩
  have sI := SIn.of h (.int .i64 4) (.int .i64 A) (.int .i64 Bf) (.int .i64 Cf) (.int .i64 D)
  rw [← hW] at sI
  generalize hgO : w.heap.size = gO at sI
  have c1 : W.cell? ⟨gb, 1, none⟩ = some (.slice va es.length vc) := by rw [← hxv]; exact sI.b.ar.cell 1
  have c2 : W.cell? ⟨gb, 2, none⟩ = some (.slice sa ss.length sc) := by rw [← hsv]; exact sI.b.ar.cell 2
  have q0 : W.cell? ⟨gO, 0, none⟩ = some (.int .i64 4) := sI.o.cell 0
  have q1 : W.cell? ⟨gO, 1, none⟩ = some (.int .i64 A) := sI.o.cell 1
  have q2 : W.cell? ⟨gO, 2, none⟩ = some (.int .i64 Bf) := sI.o.cell 2
  have q3 : W.cell? ⟨gO, 3, none⟩ = some (.int .i64 Cf) := sI.o.cell 3
  have q4 : W.cell? ⟨gO, 4, none⟩ = some (.int .i64 D) := sI.o.cell 4
  have HS := Hid.mk sI
  have HV := Hid.mk hxv
  have HVS := Hid.mk hsv
  have HK := Hid.mk hk
  have HK2 := Hid.mk hk2
  have HI : Hid (I64 A ∧ I64 Bf ∧ I64 Cf ∧ I64 D) := Hid.mk ⟨hA, hB, hC, hD⟩
  clear h hk hk2 hxv hsv sI hA hB hC hD
  go_enter Try.func22, Try.ntmps22
  go_upto_region 1 with fail
  rw [← hW]
  clear hW hgO
  by_cases hn : es.length < 1
  · have j1 : ¬ ((1 : Int) ≤ (es.length : Int)) := by omega
    go_wp2_with fail
    go_end0
    have hk := HK.out
    unfold BdK at hk
    exact ⟨rfl, ⟨P, cv, xv, sv, pv, nv, cels, es, ss, bad, cu, nx, cf, nf, HS.out.b, by omega, by omega, by omega, by omega, by omega, by omega⟩, Fr.keep HS.out.k⟩
  · have j1 : ((1 : Int) ≤ (es.length : Int)) := by omega
    have HN : Hid (1 ≤ es.length) := Hid.mk (by omega)
    clear hn
    go_upto_region 15 with fail
    clear c1 c2 q0 q1 q2 q3 q4
    obtain ⟨l0, ys, hly, hyl⟩ : ∃ l0 ys, es = l0 ++ ys ∧ ys.length = 1 := by
      have := HN.out
      exact ⟨es.take (es.length - 1), es.drop (es.length - 1), (List.take_append_drop _ _).symm, by rw [List.length_drop]; omega⟩
    have hll : l0.length ≤ es.length := by rw [hly]; simp
    have hl0 : l0.length ≤ 80000 := by have := HK.out; unfold BdK at this; have := HK2.out; omega
    have sD := HS.out.drew
    rw [hly] at sD
    refine tq15_c (P := P) (gO := gO) (A := A) (Bf := Bf) (Cf := Cf) (D := D) (Kf := 4) (l := l0) (ys := ys) sD.b rfl (by omega) hyl rfl rfl sD.o sD.ne HI.out.1 HI.out.2.1 ?_
    rintro vs w' ⟨xv', gL, gE, f, e2, hf, hgE, hne, PD, arE, fr⟩
    have bx := Bx.ofPop sD PD hgE hne arE fr
    rw [hyl] at bx
    have hrr := PD.rw'
    rw [hyl] at hrr
    simp only [Lmx, tq15T, List.filterMap_cons, List.filterMap_nil, ment, Option.map_some, Option.map_none, mval, e2, Option.getD_some, lay, List.foldl_cons, List.foldl_nil]
    simp only [put_litx, List.set_cons_succ, List.set_cons_zero]
    go_upto_region 16 with fail
    obtain ⟨xa9, xc9, hx9⟩ := OwnS.len bx.b.oe
    have bxD := bx.drew
    rw [hx9] at bxD
    refine tq16_c (P := (fun q => P q ∨ q = gL)) (gO := gO) (gE := gE) (A := A) (Bf := Bf) (Cf := Cf) (D := D) (Kf := 4) (focE (P := (fun q => P q ∨ q = gL)) (cv := cv) (sv := sv) (pv := pv) (nv := nv) (cels := cels) (ss := ss) (bad := bad) (cu := cu) (nx := nx) (cf := cf) (nf := nf) bxD.b.lo) rfl bxD.b.ar bxD.b.r (by omega) rfl rfl ⟨f, .slice (some ⟨gL, 0, none⟩) 1 1, mkE ys, ys.map neC⟩ bxD.x (fun e => bxD.xg gb (Or.inl rfl) e.symm) (fun e => bxD.xg gE (Or.inr (Or.inr (Or.inl e))) rfl) (⟨hf, hrr.step (KP.of (Keep.refl w').drew), PD.el.step (KP.of (Keep.refl w').drew)⟩) trivial ?_
    rintro vs2 w9 ⟨g, c, x, -, L⟩
    have F : BSt B gb (k + 1) w9 ∧ Fr (fun q => B ≤ q) w w9 := by
      obtain ⟨k1, k2, k3, k4, k5, k6⟩ := HK.out
      exact bxD.finE k1 (by omega) k3 k4 k5 k6 L
    generalize h9 : lay _ _ = a9
    have hdf : a9.defers = [] := by rw [← h9, lay_defers]
    clear h9
    go_wp2_with fail
    exact bodyPost_end (results_none rfl a9.tmps Try.prog w9) hdf ⟨rfl, F⟩
set_option maxRecDepth 8000 in
set_option maxHeartbeats 4000000 in
theorem step_5 {B : Nat} {P : Nat → Prop} {w : World} {gb : Nat} {cv xv sv pv nv : Value} {cels : List Cel} {es : List NE} {ss : List NS} {bad : NE} {cu nx : List (Int × Nat)} {cf : Bool} {nf : Int} {k : Nat} {A Bf Cf D : Int} (h : BB B P w gb cv xv sv pv nv cels es ss bad cu nx cf nf) (hk : BdK k cels es ss cu nx) (hk2 : k ≤ 80000) (hA : I64 A) (hB : I64 Bf) (hC : I64 Cf) (hD : I64 D) : Calls Try.prog 22 #[.pointer (some ⟨gb, 0, none⟩), .agg #[.int .i64 5, .int .i64 A, .int .i64 Bf, .int .i64 Cf, .int .i64 D]] w (StepO B gb k w) := by
  obtain ⟨va, vc, hxv⟩ := OwnS.len h.oe
  obtain ⟨sa, sc, hsv⟩ := OwnS.len h.os
  obtain ⟨W, hW⟩ : ∃ W, W = w.alloc (.cells #[.int .i64 5, .int .i64 A, .int .i64 Bf, .int .i64 Cf, .int .i64 D] 81) := ⟨_, rfl⟩
  have sI := SIn.of h (.int .i64 5) (.int .i64 A) (.int .i64 Bf) (.int .i64 Cf) (.int .i64 D)
  rw [← hW] at sI
  generalize hgO : w.heap.size = gO at sI
  have c1 : W.cell? ⟨gb, 1, none⟩ = some (.slice va es.length vc) := by rw [← hxv]; exact sI.b.ar.cell 1
  have c2 : W.cell? ⟨gb, 2, none⟩ = some (.slice sa ss.length sc) := by rw [← hsv]; exact sI.b.ar.cell 2
  have q0 : W.cell? ⟨gO, 0, none⟩ = some (.int .i64 5) := sI.o.cell 0
  have q1 : W.cell? ⟨gO, 1, none⟩ = some (.int .i64 A) := sI.o.cell 1
  have q2 : W.cell? ⟨gO, 2, none⟩ = some (.int .i64 Bf) := sI.o.cell 2
  have q3 : W.cell? ⟨gO, 3, none⟩ = some (.int .i64 Cf) := sI.o.cell 3
  have q4 : W.cell? ⟨gO, 4, none⟩ = some (.int .i64 D) := sI.o.cell 4
  have HS := Hid.mk sI
  have HV := Hid.mk hxv
  have HVS := Hid.mk hsv
  have HK := Hid.mk hk
  have HK2 := Hid.mk hk2
  have HI : Hid (I64 A ∧ I64 Bf ∧ I64 Cf ∧ I64 D) := Hid.mk ⟨hA, hB, hC, hD⟩
  clear h hk hk2 hxv hsv sI hA hB hC hD
  go_enter Try.func22, Try.ntmps22
  go_upto_region 1 with fail
  rw [← hW]
  clear hW hgO
  by_cases hn : es.length < 1
  · have j1 : ¬ ((1 : Int) ≤ (es.length : Int)) := by omega
    go_wp2_with fail
    go_end0
    have hk := HK.out
    unfold BdK at hk
    exact ⟨rfl, ⟨P, cv, xv, sv, pv, nv, cels, es, ss, bad, cu, nx, cf, nf, HS.out.b, by omega, by omega, by omega, by omega, by omega, by omega⟩, Fr.keep HS.out.k⟩
  · have j1 : ((1 : Int) ≤ (es.length : Int)) := by omega
    have HN : Hid (1 ≤ es.length) := Hid.mk (by omega)
    clear hn
    go_upto_region 19 with fail
    clear c1 c2 q0 q1 q2 q3 q4
    obtain ⟨l0, ys, hly, hyl⟩ : ∃ l0 ys, es = l0 ++ ys ∧ ys.length = 1 := by
      have := HN.out
      exact ⟨es.take (es.length - 1), es.drop (es.length - 1), (List.take_append_drop _ _).symm, by rw [List.length_drop]; omega⟩
    have hll : l0.length ≤ es.length := by rw [hly]; simp
    have hl0 : l0.length ≤ 80000 := by have := HK.out; unfold BdK at this; have := HK2.out; omega
    have sD := HS.out.drew
    rw [hly] at sD
    refine tq19_c (P := P) (gO := gO) (A := A) (Bf := Bf) (Cf := Cf) (D := D) (Kf := 5) (l := l0) (ys := ys) sD.b rfl (by omega) hyl rfl rfl sD.o sD.ne HI.out.1 HI.out.2.1 ?_
    rintro vs w' ⟨xv', gL, gE, f, e2, hf, hgE, hne, PD, arE, fr⟩
    have bx := Bx.ofPop sD PD hgE hne arE fr
    rw [hyl] at bx
    have hrr := PD.rw'
    rw [hyl] at hrr
    simp only [Lmx, tq19T, List.filterMap_cons, List.filterMap_nil, ment, Option.map_some, Option.map_none, mval, e2, Option.getD_some, lay, List.foldl_cons, List.foldl_nil]
    simp only [put_litx, List.set_cons_succ, List.set_cons_zero]
    have hkid : ∃ z, w'.cell? ⟨gL, 1, none⟩ = some (.int .i64 z) ∧ I64 z := by
      have hi : 0 < ys.length := by omega
      obtain ⟨ra, rc, rv, -, -, rcell⟩ := PD.rw'
      obtain ⟨rb, ro, re, -, -, rcs⟩ := rcell 0 (by simpa using hi)
      injection rv with rv1
      rw [re] at rv1
      injection rv1 with rv1
      injection rv1 with rv1 rv2
      have h1 := rcs 1 (by decide)
      rw [← rv1, ← rv2] at h1
      have h2 : ys[0] ∈ l0 ++ ys := List.mem_append_right _ (List.getElem_mem hi)
      exact ⟨ys[0].f.w, by simpa [neC, efC] using h1, (sD.b.he _ h2).1.w⟩
    obtain ⟨kw, hkc, hkw⟩ := hkid
    have HKW := Hid.mk hkw
    clear hkw
    obtain ⟨fk, fw, fo, fv, fc, fl⟩ := f
    have HBX := Hid.mk bx
    have HRR := Hid.mk hrr
    have HEL := Hid.mk PD.el
    have HF := Hid.mk hf
    have HL0 : Hid (l0.length ≤ 80000 ∧ l0.length ≤ es.length) := Hid.mk ⟨hl0, hll⟩
    have x6 : w'.cell? ⟨gE, 6, none⟩ = some (.slice (some ⟨gL, 0, none⟩) 1 1) := bx.x.cell 6
    have x1 : w'.cell? ⟨gE, 1, none⟩ = some (.int .i64 fw) := bx.x.cell 1
    have x1f := bx.x.frozen 1
    clear bx hrr PD hf hl0 hll arE fr hly hyl sD hgE hne e2
    go_upto_region 21 with fail
    obtain ⟨w2, hw2⟩ : ∃ w2, w2 = w'.setCell ⟨gE, 1, none⟩ (.int .i64 kw) := ⟨_, rfl⟩
    rw [← hw2]
    have bx2 := HBX.out.set 1 (.int .i64 kw)
    have kp2 := HBX.out.kp 1 (.int .i64 kw)
    rw [← hw2] at bx2 kp2
    have hrr2 := HRR.out.step kp2
    have hel2 := HEL.out.step kp2
    have HBX2 := Hid.mk bx2
    have HRR2 := Hid.mk hrr2
    have HEL2 := Hid.mk hel2
    have z2 : w2.cell? ⟨gE, 2, none⟩ = some (.int .i64 fo) := bx2.x.cell 2
    have z1 : w2.cell? ⟨gE, 1, none⟩ = some (.int .i64 kw) := bx2.x.cell 1
    have z1f := bx2.x.frozen 1
    have zq : w2.cell? ⟨gO, 2, none⟩ = some (.int .i64 Bf) := bx2.o.cell 2
    clear bx2 hrr2 hel2 kp2 hw2 x6 x1 x1f hkc
    by_cases d2 : fo = 2
    · subst d2
      go_upto_region 23 with fail
      clear z2 z1 z1f zq
      have bx3 := HBX2.out.set 1 (.int .i64 Bf)
      have kp3 := HBX2.out.kp 1 (.int .i64 Bf)
      have hl0 := HL0.out.1
      have hll := HL0.out.2
      obtain ⟨xa9, xc9, hx9⟩ := OwnS.len bx3.b.oe
      have bxD := bx3.drew
      rw [hx9] at bxD
      refine tq23_c (P := (fun q => P q ∨ q = gL)) (gO := gO) (gE := gE) (A := A) (Bf := Bf) (Cf := Cf) (D := D) (Kf := 5) (focE (P := (fun q => P q ∨ q = gL)) (cv := cv) (sv := sv) (pv := pv) (nv := nv) (cels := cels) (ss := ss) (bad := bad) (cu := cu) (nx := nx) (cf := cf) (nf := nf) bxD.b.lo) rfl bxD.b.ar bxD.b.r (by omega) rfl rfl ⟨⟨fk, Bf, 2, fv, fc, fl⟩, .slice (some ⟨gL, 0, none⟩) 1 1, mkE ys, ys.map neC⟩ bxD.x (fun e => bxD.xg gb (Or.inl rfl) e.symm) (fun e => bxD.xg gE (Or.inr (Or.inr (Or.inl e))) rfl) (⟨⟨HF.out.k, HI.out.2.1, HF.out.o, HF.out.v, HF.out.c, HF.out.l⟩, (HRR2.out.step kp3).step (KP.of (Keep.refl _).drew), (HEL2.out.step kp3).step (KP.of (Keep.refl _).drew)⟩) trivial ?_
      rintro vs2 w9 ⟨g, c, x, -, L⟩
      have F : BSt B gb (k + 1) w9 ∧ Fr (fun q => B ≤ q) w w9 := by
        obtain ⟨k1, k2, k3, k4, k5, k6⟩ := HK.out
        exact bxD.finE k1 (by omega) k3 k4 k5 k6 L
      generalize h9 : lay _ _ = a9
      have hdf : a9.defers = [] := by rw [← h9, lay_defers]
      clear h9
      go_wp2_with fail
      exact bodyPost_end (results_none rfl a9.tmps Try.prog w9) hdf ⟨rfl, F⟩
    · by_cases d3 : fo = 3
      · subst d3
        clear d2
        go_upto_region 23 with fail
        clear z2 z1 z1f zq
        have bx3 := HBX2.out.set 1 (.int .i64 Bf)
        have kp3 := HBX2.out.kp 1 (.int .i64 Bf)
        have hl0 := HL0.out.1
        have hll := HL0.out.2
        obtain ⟨xa9, xc9, hx9⟩ := OwnS.len bx3.b.oe
        have bxD := bx3.drew
        rw [hx9] at bxD
        refine tq23_c (P := (fun q => P q ∨ q = gL)) (gO := gO) (gE := gE) (A := A) (Bf := Bf) (Cf := Cf) (D := D) (Kf := 5) (focE (P := (fun q => P q ∨ q = gL)) (cv := cv) (sv := sv) (pv := pv) (nv := nv) (cels := cels) (ss := ss) (bad := bad) (cu := cu) (nx := nx) (cf := cf) (nf := nf) bxD.b.lo) rfl bxD.b.ar bxD.b.r (by omega) rfl rfl ⟨⟨fk, Bf, 3, fv, fc, fl⟩, .slice (some ⟨gL, 0, none⟩) 1 1, mkE ys, ys.map neC⟩ bxD.x (fun e => bxD.xg gb (Or.inl rfl) e.symm) (fun e => bxD.xg gE (Or.inr (Or.inr (Or.inl e))) rfl) (⟨⟨HF.out.k, HI.out.2.1, HF.out.o, HF.out.v, HF.out.c, HF.out.l⟩, (HRR2.out.step kp3).step (KP.of (Keep.refl _).drew), (HEL2.out.step kp3).step (KP.of (Keep.refl _).drew)⟩) trivial ?_
        rintro vs2 w9 ⟨g, c, x, -, L⟩
        have F : BSt B gb (k + 1) w9 ∧ Fr (fun q => B ≤ q) w w9 := by
          obtain ⟨k1, k2, k3, k4, k5, k6⟩ := HK.out
          exact bxD.finE k1 (by omega) k3 k4 k5 k6 L
        generalize h9 : lay _ _ = a9
        have hdf : a9.defers = [] := by rw [← h9, lay_defers]
        clear h9
        go_wp2_with fail
        exact bodyPost_end (results_none rfl a9.tmps Try.prog w9) hdf ⟨rfl, F⟩
      · by_cases d4 : fo = 4
        · subst d4
          clear d2 d3
          go_upto_region 23 with fail
          clear z2 z1 z1f zq
          have bx3 := HBX2.out.set 1 (.int .i64 Bf)
          have kp3 := HBX2.out.kp 1 (.int .i64 Bf)
          have hl0 := HL0.out.1
          have hll := HL0.out.2
          obtain ⟨xa9, xc9, hx9⟩ := OwnS.len bx3.b.oe
          have bxD := bx3.drew
          rw [hx9] at bxD
          refine tq23_c (P := (fun q => P q ∨ q = gL)) (gO := gO) (gE := gE) (A := A) (Bf := Bf) (Cf := Cf) (D := D) (Kf := 5) (focE (P := (fun q => P q ∨ q = gL)) (cv := cv) (sv := sv) (pv := pv) (nv := nv) (cels := cels) (ss := ss) (bad := bad) (cu := cu) (nx := nx) (cf := cf) (nf := nf) bxD.b.lo) rfl bxD.b.ar bxD.b.r (by omega) rfl rfl ⟨⟨fk, Bf, 4, fv, fc, fl⟩, .slice (some ⟨gL, 0, none⟩) 1 1, mkE ys, ys.map neC⟩ bxD.x (fun e => bxD.xg gb (Or.inl rfl) e.symm) (fun e => bxD.xg gE (Or.inr (Or.inr (Or.inl e))) rfl) (⟨⟨HF.out.k, HI.out.2.1, HF.out.o, HF.out.v, HF.out.c, HF.out.l⟩, (HRR2.out.step kp3).step (KP.of (Keep.refl _).drew), (HEL2.out.step kp3).step (KP.of (Keep.refl _).drew)⟩) trivial ?_
          rintro vs2 w9 ⟨g, c, x, -, L⟩
          have F : BSt B gb (k + 1) w9 ∧ Fr (fun q => B ≤ q) w w9 := by
            obtain ⟨k1, k2, k3, k4, k5, k6⟩ := HK.out
            exact bxD.finE k1 (by omega) k3 k4 k5 k6 L
          generalize h9 : lay _ _ = a9
          have hdf : a9.defers = [] := by rw [← h9, lay_defers]
          clear h9
          go_wp2_with fail
          exact bodyPost_end (results_none rfl a9.tmps Try.prog w9) hdf ⟨rfl, F⟩
        · have b2 : (fo == 2) = false := by simpa using d2
          have b3 : (fo == 3) = false := by simpa using d3
          have b4 : (fo == 4) = false := by simpa using d4
          clear d2 d3 d4
          go_upto_region 23 with fail
          clear z2 z1 z1f zq
          have bx3 := HBX2.out
          have hl0 := HL0.out.1
          have hll := HL0.out.2
          obtain ⟨xa9, xc9, hx9⟩ := OwnS.len bx3.b.oe
          have bxD := bx3.drew
          rw [hx9] at bxD
          refine tq23_c (P := (fun q => P q ∨ q = gL)) (gO := gO) (gE := gE) (A := A) (Bf := Bf) (Cf := Cf) (D := D) (Kf := 5) (focE (P := (fun q => P q ∨ q = gL)) (cv := cv) (sv := sv) (pv := pv) (nv := nv) (cels := cels) (ss := ss) (bad := bad) (cu := cu) (nx := nx) (cf := cf) (nf := nf) bxD.b.lo) rfl bxD.b.ar bxD.b.r (by omega) rfl rfl ⟨⟨fk, kw, fo, fv, fc, fl⟩, .slice (some ⟨gL, 0, none⟩) 1 1, mkE ys, ys.map neC⟩ bxD.x (fun e => bxD.xg gb (Or.inl rfl) e.symm) (fun e => bxD.xg gE (Or.inr (Or.inr (Or.inl e))) rfl) (⟨⟨HF.out.k, HKW.out, HF.out.o, HF.out.v, HF.out.c, HF.out.l⟩, HRR2.out.step (KP.of (Keep.refl w2).drew), HEL2.out.step (KP.of (Keep.refl w2).drew)⟩) trivial ?_
          rintro vs2 w9 ⟨g, c, x, -, L⟩
          have F : BSt B gb (k + 1) w9 ∧ Fr (fun q => B ≤ q) w w9 := by
            obtain ⟨k1, k2, k3, k4, k5, k6⟩ := HK.out
            exact bxD.finE k1 (by omega) k3 k4 k5 k6 L
          generalize h9 : lay _ _ = a9
          have hdf : a9.defers = [] := by rw [← h9, lay_defers]
          clear h9
          go_wp2_with fail
          exact bodyPost_end (results_none rfl a9.tmps Try.prog w9) hdf ⟨rfl, F⟩
set_option maxRecDepth 8000 in
set_option maxHeartbeats 4000000 in
theorem step_6 {B : Nat} {P : Nat → Prop} {w : World} {gb : Nat} {cv xv sv pv nv : Value} {cels : List Cel} {es : List NE} {ss : List NS} {bad : NE} {cu nx : List (Int × Nat)} {cf : Bool} {nf : Int} {k : Nat} {A Bf Cf D : Int} (h : BB B P w gb cv xv sv pv nv cels es ss bad cu nx cf nf) (hk : BdK k cels es ss cu nx) (hk2 : k ≤ 80000) (hA : I64 A) (hB : I64 Bf) (hC : I64 Cf) (hD : I64 D) : Calls Try.prog 22 #[.pointer (some ⟨gb, 0, none⟩), .agg #[.int .i64 6, .int .i64 A, .int .i64 Bf, .int .i64 Cf, .int .i64 D]] w (StepO B gb k w) := by
  obtain ⟨va, vc, hxv⟩ := OwnS.len h.oe
  obtain ⟨sa, sc, hsv⟩ := OwnS.len h.os
  obtain ⟨W, hW⟩ : ∃ W, W = w.alloc (.cells #[.int .i64 6, .int .i64 A, .int .i64 Bf, .int .i64 Cf, .int .i64 D] 81) := ⟨_, rfl⟩
  have sI := SIn.of h (.int .i64 6) (.int .i64 A) (.int .i64 Bf) (.int .i64 Cf) (.int .i64 D)
  rw [← hW] at sI
  generalize hgO : w.heap.size = gO at sI
  have c1 : W.cell? ⟨gb, 1, none⟩ = some (.slice va es.length vc) := by rw [← hxv]; exact sI.b.ar.cell 1
  have c2 : W.cell? ⟨gb, 2, none⟩ = some (.slice sa ss.length sc) := by rw [← hsv]; exact sI.b.ar.cell 2
  have q0 : W.cell? ⟨gO, 0, none⟩ = some (.int .i64 6) := sI.o.cell 0
  have q1 : W.cell? ⟨gO, 1, none⟩ = some (.int .i64 A) := sI.o.cell 1
  have q2 : W.cell? ⟨gO, 2, none⟩ = some (.int .i64 Bf) := sI.o.cell 2
  have q3 : W.cell? ⟨gO, 3, none⟩ = some (.int .i64 Cf) := sI.o.cell 3
  have q4 : W.cell? ⟨gO, 4, none⟩ = some (.int .i64 D) := sI.o.cell 4
  have HS := Hid.mk sI
  have HV := Hid.mk hxv
  have HVS := Hid.mk hsv
  have HK := Hid.mk hk
  have HK2 := Hid.mk hk2
  have HI : Hid (I64 A ∧ I64 Bf ∧ I64 Cf ∧ I64 D) := Hid.mk ⟨hA, hB, hC, hD⟩
  clear h hk hk2 hxv hsv sI hA hB hC hD
  go_enter Try.func22, Try.ntmps22
  go_upto_region 1 with fail
  rw [← hW]
  clear hW hgO
  by_cases hn : es.length < 2
  · have j1 : ¬ ((2 : Int) ≤ (es.length : Int)) := by omega
    go_wp2_with fail
    go_end0
    have hk := HK.out
    unfold BdK at hk
    exact ⟨rfl, ⟨P, cv, xv, sv, pv, nv, cels, es, ss, bad, cu, nx, cf, nf, HS.out.b, by omega, by omega, by omega, by omega, by omega, by omega⟩, Fr.keep HS.out.k⟩
  · have j1 : ((2 : Int) ≤ (es.length : Int)) := by omega
    have HN : Hid (2 ≤ es.length) := Hid.mk (by omega)
    clear hn
    go_upto_region 26 with fail
    clear c1 c2 q0 q1 q2 q3 q4
    obtain ⟨l0, ys, hly, hyl⟩ : ∃ l0 ys, es = l0 ++ ys ∧ ys.length = 2 := by
      have := HN.out
      exact ⟨es.take (es.length - 2), es.drop (es.length - 2), (List.take_append_drop _ _).symm, by rw [List.length_drop]; omega⟩
    have hll : l0.length ≤ es.length := by rw [hly]; simp
    have hl0 : l0.length ≤ 80000 := by have := HK.out; unfold BdK at this; have := HK2.out; omega
    have sD := HS.out.drew
    rw [hly] at sD
    refine tq26_c (P := P) (gO := gO) (A := A) (Bf := Bf) (Cf := Cf) (D := D) (Kf := 6) (l := l0) (ys := ys) sD.b rfl (by omega) hyl rfl rfl sD.o sD.ne HI.out.1 HI.out.2.1 ?_
    rintro vs w' ⟨xv', gL, gE, f, e2, hf, hgE, hne, PD, arE, fr⟩
    have bx := Bx.ofPop sD PD hgE hne arE fr
    rw [hyl] at bx
    have hrr := PD.rw'
    rw [hyl] at hrr
    simp only [Lmx, tq26T, List.filterMap_cons, List.filterMap_nil, ment, Option.map_some, Option.map_none, mval, e2, Option.getD_some, lay, List.foldl_cons, List.foldl_nil]
    simp only [put_litx, List.set_cons_succ, List.set_cons_zero]
    have hkid : ∃ z, w'.cell? ⟨gL, 1, none⟩ = some (.int .i64 z) ∧ I64 z := by
      have hi : 0 < ys.length := by omega
      obtain ⟨ra, rc, rv, -, -, rcell⟩ := PD.rw'
      obtain ⟨rb, ro, re, -, -, rcs⟩ := rcell 0 (by simpa using hi)
      injection rv with rv1
      rw [re] at rv1
      injection rv1 with rv1
      injection rv1 with rv1 rv2
      have h1 := rcs 1 (by decide)
      rw [← rv1, ← rv2] at h1
      have h2 : ys[0] ∈ l0 ++ ys := List.mem_append_right _ (List.getElem_mem hi)
      exact ⟨ys[0].f.w, by simpa [neC, efC] using h1, (sD.b.he _ h2).1.w⟩
    obtain ⟨kw, hkc, hkw⟩ := hkid
    have HKW := Hid.mk hkw
    clear hkw
    obtain ⟨fk, fw, fo, fv, fc, fl⟩ := f
    have HBX := Hid.mk bx
    have HRR := Hid.mk hrr
    have HEL := Hid.mk PD.el
    have HF := Hid.mk hf
    have HL0 : Hid (l0.length ≤ 80000 ∧ l0.length ≤ es.length) := Hid.mk ⟨hl0, hll⟩
    have x6 : w'.cell? ⟨gE, 6, none⟩ = some (.slice (some ⟨gL, 0, none⟩) 2 2) := bx.x.cell 6
    have x1 : w'.cell? ⟨gE, 1, none⟩ = some (.int .i64 fw) := bx.x.cell 1
    have x1f := bx.x.frozen 1
    clear bx hrr PD hf hl0 hll arE fr hly hyl sD hgE hne e2
    go_upto_region 28 with fail
    obtain ⟨w2, hw2⟩ : ∃ w2, w2 = w'.setCell ⟨gE, 1, none⟩ (.int .i64 kw) := ⟨_, rfl⟩
    rw [← hw2]
    have bx2 := HBX.out.set 1 (.int .i64 kw)
    have kp2 := HBX.out.kp 1 (.int .i64 kw)
    rw [← hw2] at bx2 kp2
    have hrr2 := HRR.out.step kp2
    have hel2 := HEL.out.step kp2
    have HBX2 := Hid.mk bx2
    have HRR2 := Hid.mk hrr2
    have HEL2 := Hid.mk hel2
    have z2 : w2.cell? ⟨gE, 2, none⟩ = some (.int .i64 fo) := bx2.x.cell 2
    have z1 : w2.cell? ⟨gE, 1, none⟩ = some (.int .i64 kw) := bx2.x.cell 1
    have z1f := bx2.x.frozen 1
    clear bx2 hrr2 hel2 kp2 hw2 x6 x1 x1f hkc
    by_cases d2 : (13 : Int) ≤ fo
    ·
      go_upto_region 30 with fail
      clear z2 z1 z1f
      have bx3 := HBX2.out.set 1 (.int .i64 1)
      have kp3 := HBX2.out.kp 1 (.int .i64 1)
      have hl0 := HL0.out.1
      have hll := HL0.out.2
      obtain ⟨xa9, xc9, hx9⟩ := OwnS.len bx3.b.oe
      have bxD := bx3.drew
      rw [hx9] at bxD
      refine tq30_c (P := (fun q => P q ∨ q = gL)) (gO := gO) (gE := gE) (A := A) (Bf := Bf) (Cf := Cf) (D := D) (Kf := 6) (focE (P := (fun q => P q ∨ q = gL)) (cv := cv) (sv := sv) (pv := pv) (nv := nv) (cels := cels) (ss := ss) (bad := bad) (cu := cu) (nx := nx) (cf := cf) (nf := nf) bxD.b.lo) rfl bxD.b.ar bxD.b.r (by omega) rfl rfl ⟨⟨fk, 1, fo, fv, fc, fl⟩, .slice (some ⟨gL, 0, none⟩) 2 2, mkE ys, ys.map neC⟩ bxD.x (fun e => bxD.xg gb (Or.inl rfl) e.symm) (fun e => bxD.xg gE (Or.inr (Or.inr (Or.inl e))) rfl) (⟨⟨HF.out.k, by simp [I64], HF.out.o, HF.out.v, HF.out.c, HF.out.l⟩, (HRR2.out.step kp3).step (KP.of (Keep.refl _).drew), (HEL2.out.step kp3).step (KP.of (Keep.refl _).drew)⟩) trivial ?_
      rintro vs2 w9 ⟨g, c, x, -, L⟩
      have F : BSt B gb (k + 1) w9 ∧ Fr (fun q => B ≤ q) w w9 := by
        obtain ⟨k1, k2, k3, k4, k5, k6⟩ := HK.out
        exact bxD.finE k1 (by omega) k3 k4 k5 k6 L
      generalize h9 : lay _ _ = a9
      have hdf : a9.defers = [] := by rw [← h9, lay_defers]
      clear h9
      go_wp2_with fail
      exact bodyPost_end (results_none rfl a9.tmps Try.prog w9) hdf ⟨rfl, F⟩
    ·
      go_upto_region 30 with fail
      clear z2 z1 z1f
      have bx3 := HBX2.out
      have hl0 := HL0.out.1
      have hll := HL0.out.2
      obtain ⟨xa9, xc9, hx9⟩ := OwnS.len bx3.b.oe
      have bxD := bx3.drew
      rw [hx9] at bxD
      refine tq30_c (P := (fun q => P q ∨ q = gL)) (gO := gO) (gE := gE) (A := A) (Bf := Bf) (Cf := Cf) (D := D) (Kf := 6) (focE (P := (fun q => P q ∨ q = gL)) (cv := cv) (sv := sv) (pv := pv) (nv := nv) (cels := cels) (ss := ss) (bad := bad) (cu := cu) (nx := nx) (cf := cf) (nf := nf) bxD.b.lo) rfl bxD.b.ar bxD.b.r (by omega) rfl rfl ⟨⟨fk, kw, fo, fv, fc, fl⟩, .slice (some ⟨gL, 0, none⟩) 2 2, mkE ys, ys.map neC⟩ bxD.x (fun e => bxD.xg gb (Or.inl rfl) e.symm) (fun e => bxD.xg gE (Or.inr (Or.inr (Or.inl e))) rfl) (⟨⟨HF.out.k, HKW.out, HF.out.o, HF.out.v, HF.out.c, HF.out.l⟩, HRR2.out.step (KP.of (Keep.refl w2).drew), HEL2.out.step (KP.of (Keep.refl w2).drew)⟩) trivial ?_
      rintro vs2 w9 ⟨g, c, x, -, L⟩
      have F : BSt B gb (k + 1) w9 ∧ Fr (fun q => B ≤ q) w w9 := by
        obtain ⟨k1, k2, k3, k4, k5, k6⟩ := HK.out
        exact bxD.finE k1 (by omega) k3 k4 k5 k6 L
      generalize h9 : lay _ _ = a9
      have hdf : a9.defers = [] := by rw [← h9, lay_defers]
      clear h9
      go_wp2_with fail
      exact bodyPost_end (results_none rfl a9.tmps Try.prog w9) hdf ⟨rfl, F⟩
end Go.Proofs.Qxb6500772a
