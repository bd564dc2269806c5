/- blastlaw: step. -/
import Derived.Test.Qxb6500772aGq
namespace Go.Proofs.Qxb6500772a
open Go Go.RowKit Go.Qm
set_option linter.unusedVariables false
set_option linter.unusedSimpArgs false
attribute [local go_sem ↓] Go.wp_at_zero Go.wp_at_succ
set_option maxRecDepth 8000 in
set_option maxHeartbeats 4000000 in
theorem step_0 {B : Nat} {P : Nat → Prop} {w : World} {gb : Nat} {cv xv sv pv nv : Value} {cels : List Cel} {es : List NE} {ss : List NS} {bad : NE} {cu nx : List (Int × Nat)} {cf : Bool} {nf : Int} {k : Nat} {A Bf Cf D : Int} (h : BB B P w gb cv xv sv pv nv cels es ss bad cu nx cf nf) (hk : BdK k cels es ss cu nx) (hk2 : k ≤ 80000) (hA : I64 A) (hB : I64 Bf) (hC : I64 Cf) (hD : I64 D) : Calls Try.prog 22 #[.pointer (some ⟨gb, 0, none⟩), .agg #[.int .i64 0, .int .i64 A, .int .i64 Bf, .int .i64 Cf, .int .i64 D]] w (StepO B gb k w) := by
  obtain ⟨va, vc, hxv⟩ := OwnS.len h.oe
  obtain ⟨sa, sc, hsv⟩ := OwnS.len h.os
  obtain ⟨W, hW⟩ : ∃ W, W = w.alloc (.cells #[.int .i64 0, .int .i64 A, .int .i64 Bf, .int .i64 Cf, .int .i64 D] 81) := ⟨_, rfl⟩
  have sI := SIn.of h (.int .i64 0) (.int .i64 A) (.int .i64 Bf) (.int .i64 Cf) (.int .i64 D)
  rw [← hW] at sI
  generalize hgO : w.heap.size = gO at sI
  have c1 : W.cell? ⟨gb, 1, none⟩ = some (.slice va es.length vc) := by rw [← hxv]; exact sI.b.ar.cell 1
  have c2 : W.cell? ⟨gb, 2, none⟩ = some (.slice sa ss.length sc) := by rw [← hsv]; exact sI.b.ar.cell 2
  have q0 : W.cell? ⟨gO, 0, none⟩ = some (.int .i64 0) := sI.o.cell 0
  have q1 : W.cell? ⟨gO, 1, none⟩ = some (.int .i64 A) := sI.o.cell 1
  have q2 : W.cell? ⟨gO, 2, none⟩ = some (.int .i64 Bf) := sI.o.cell 2
  have q3 : W.cell? ⟨gO, 3, none⟩ = some (.int .i64 Cf) := sI.o.cell 3
  have q4 : W.cell? ⟨gO, 4, none⟩ = some (.int .i64 D) := sI.o.cell 4
  have HS := Hid.mk sI
  have HV := Hid.mk hxv
  have HVS := Hid.mk hsv
  have HK := Hid.mk hk
  have HK2 := Hid.mk hk2
  have HI : Hid (I64 A ∧ I64 Bf ∧ I64 Cf ∧ I64 D) := Hid.mk ⟨hA, hB, hC, hD⟩
  clear h hk hk2 hxv hsv sI hA hB hC hD
  go_enter Try.func22, Try.ntmps22
  go_upto_region 1 with fail
  rw [← hW]
  clear hW hgO
  cases hbt : (bits BinOp.and IntKind.i64 Cf 1 == 1)
  · go_upto_region 6 with fail
    clear c1 c2 q0 q1 q2 q3 q4
    obtain ⟨xa9, xc9, hx9⟩ := OwnS.len HS.out.b.oc
    have HVX := Hid.mk hx9
    clear hx9
    refine tq6_c (P := P) (gO := gO) (gE := 0) (A := A) (Bf := Bf) (Cf := Cf) (D := D) (Kf := 0) (focC (P := P) (xv := xv) (sv := sv) (pv := pv) (nv := nv) (es := es) (ss := ss) (bad := bad) (cu := cu) (nx := nx) (cf := cf) (nf := nf) HS.out.b.lo) rfl (by rw [← HVX.out]; exact HS.out.drew.b.ar) (by rw [← HVX.out]; exact HS.out.drew.b.r) (by have := HK.out; unfold BdK at this; have := HK2.out; omega) rfl rfl HS.out.drew.o HS.out.ne (fun e => OwnS.neA (by rw [← HVX.out]; exact HS.out.drew.b.oc) HS.out.drew.o (by decide) e) HI.out.1 ?_
    rintro vs w' ⟨g, c, x, -, L⟩
    rw [← HVX.out] at L
    have F := finC HS.out.drew HK.out L
    generalize h9 : lay _ _ = a9
    have hdf : a9.defers = [] := by rw [← h9, lay_defers]
    clear h9
    go_wp2_with fail
    exact bodyPost_end (results_none rfl a9.tmps Try.prog w') hdf ⟨rfl, F⟩
  · go_upto_region 5 with fail
    clear c1 c2 q0 q1 q2 q3 q4
    obtain ⟨xa9, xc9, hx9⟩ := OwnS.len HS.out.b.oc
    have HVX := Hid.mk hx9
    clear hx9
    refine tq5_c (P := P) (gO := gO) (gE := 0) (A := A) (Bf := Bf) (Cf := Cf) (D := D) (Kf := 0) (focC (P := P) (xv := xv) (sv := sv) (pv := pv) (nv := nv) (es := es) (ss := ss) (bad := bad) (cu := cu) (nx := nx) (cf := cf) (nf := nf) HS.out.b.lo) rfl (by rw [← HVX.out]; exact HS.out.drew.b.ar) (by rw [← HVX.out]; exact HS.out.drew.b.r) (by have := HK.out; unfold BdK at this; have := HK2.out; omega) rfl rfl HS.out.drew.o HS.out.ne (fun e => OwnS.neA (by rw [← HVX.out]; exact HS.out.drew.b.oc) HS.out.drew.o (by decide) e) HI.out.1 HI.out.2.1 HI.out.2.2.2 ?_
    rintro vs w' ⟨g, c, x, -, L⟩
    rw [← HVX.out] at L
    have F := finC HS.out.drew HK.out L
    generalize h9 : lay _ _ = a9
    have hdf : a9.defers = [] := by rw [← h9, lay_defers]
    clear h9
    go_wp2_with fail
    exact bodyPost_end (results_none rfl a9.tmps Try.prog w') hdf ⟨rfl, F⟩
set_option maxRecDepth 8000 in
set_option maxHeartbeats 4000000 in
theorem step_1 {B : Nat} {P : Nat → Prop} {w : World} {gb : Nat} {cv xv sv pv nv : Value} {cels : List Cel} {es : List NE} {ss : List NS} {bad : NE} {cu nx : List (Int × Nat)} {cf : Bool} {nf : Int} {k : Nat} {A Bf Cf D : Int} (h : BB B P w gb cv xv sv pv nv cels es ss bad cu nx cf nf) (hk : BdK k cels es ss cu nx) (hk2 : k ≤ 80000) (hA : I64 A) (hB : I64 Bf) (hC : I64 Cf) (hD : I64 D) : Calls Try.prog 22 #[.pointer (some ⟨gb, 0, none⟩), .agg #[.int .i64 1, .int .i64 A, .int .i64 Bf, .int .i64 Cf, .int .i64 D]] w (StepO B gb k w) := by
  obtain ⟨va, vc, hxv⟩ := OwnS.len h.oe
  obtain ⟨sa, sc, hsv⟩ := OwnS.len h.os
  obtain ⟨W, hW⟩ : ∃ W, W = w.alloc (.cells #[.int .i64 1, .int .i64 A, .int .i64 Bf, .int .i64 Cf, .int .i64 D] 81) := ⟨_, rfl⟩
  have sI := SIn.of h (.int .i64 1) (.int .i64 A) (.int .i64 Bf) (.int .i64 Cf) (.int .i64 D)
  rw [← hW] at sI
  generalize hgO : w.heap.size = gO at sI
  have c1 : W.cell? ⟨gb, 1, none⟩ = some (.slice va es.length vc) := by rw [← hxv]; exact sI.b.ar.cell 1
  have c2 : W.cell? ⟨gb, 2, none⟩ = some (.slice sa ss.length sc) := by rw [← hsv]; exact sI.b.ar.cell 2
  have q0 : W.cell? ⟨gO, 0, none⟩ = some (.int .i64 1) := sI.o.cell 0
  have q1 : W.cell? ⟨gO, 1, none⟩ = some (.int .i64 A) := sI.o.cell 1
  have q2 : W.cell? ⟨gO, 2, none⟩ = some (.int .i64 Bf) := sI.o.cell 2
  have q3 : W.cell? ⟨gO, 3, none⟩ = some (.int .i64 Cf) := sI.o.cell 3
  have q4 : W.cell? ⟨gO, 4, none⟩ = some (.int .i64 D) := sI.o.cell 4
  have HS := Hid.mk sI
  have HV := Hid.mk hxv
  have HVS := Hid.mk hsv
  have HK := Hid.mk hk
  have HK2 := Hid.mk hk2
  have HI : Hid (I64 A ∧ I64 Bf ∧ I64 Cf ∧ I64 D) := Hid.mk ⟨hA, hB, hC, hD⟩
  clear h hk hk2 hxv hsv sI hA hB hC hD
  go_enter Try.func22, Try.ntmps22
  go_upto_region 1 with fail
  rw [← hW]
  clear hW hgO
  go_upto_region 8 with fail
  clear c1 c2 q0 q1 q2 q3 q4
  refine tq8_c (P := P) (gO := gO) (gE := 0) (A := A) (Bf := Bf) (Cf := Cf) (D := D) (Kf := 1) (focE (P := P) (cv := cv) (sv := sv) (pv := pv) (nv := nv) (cels := cels) (ss := ss) (bad := bad) (cu := cu) (nx := nx) (cf := cf) (nf := nf) HS.out.b.lo) rfl (by rw [← HV.out]; exact HS.out.drew.b.ar) (by rw [← HV.out]; exact HS.out.drew.b.r) (by have := HK.out; unfold BdK at this; have := HK2.out; omega) rfl rfl HS.out.drew.o HS.out.ne (fun e => OwnS.neA (by rw [← HV.out]; exact HS.out.drew.b.oe) HS.out.drew.o (by decide) e) HI.out.1 ?_
  rintro vs w' ⟨g, c, x, -, L⟩
  rw [← HV.out] at L
  have F := finE HS.out.drew HK.out L
  generalize h9 : lay _ _ = a9
  have hdf : a9.defers = [] := by rw [← h9, lay_defers]
  clear h9
  go_wp2_with fail
  exact bodyPost_end (results_none rfl a9.tmps Try.prog w') hdf ⟨rfl, F⟩
set_option maxRecDepth 8000 in
set_option maxHeartbeats 4000000 in
theorem step_2 {B : Nat} {P : Nat → Prop} {w : World} {gb : Nat} {cv xv sv pv nv : Value} {cels : List Cel} {es : List NE} {ss : List NS} {bad : NE} {cu nx : List (Int × Nat)} {cf : Bool} {nf : Int} {k : Nat} {A Bf Cf D : Int} (h : BB B P w gb cv xv sv pv nv cels es ss bad cu nx cf nf) (hk : BdK k cels es ss cu nx) (hk2 : k ≤ 80000) (hA : I64 A) (hB : I64 Bf) (hC : I64 Cf) (hD : I64 D) : Calls Try.prog 22 #[.pointer (some ⟨gb, 0, none⟩), .agg #[.int .i64 2, .int .i64 A, .int .i64 Bf, .int .i64 Cf, .int .i64 D]] w (StepO B gb k w) := by
  obtain ⟨va, vc, hxv⟩ := OwnS.len h.oe
  obtain ⟨sa, sc, hsv⟩ := OwnS.len h.os
  obtain ⟨W, hW⟩ : ∃ W, W = w.alloc (.cells #[.int .i64 2, .int .i64 A, .int .i64 Bf, .int .i64 Cf, .int .i64 D] 81) := ⟨_, rfl⟩
  have sI := SIn.of h (.int .i64 2) (.int .i64 A) (.int .i64 Bf) (.int .i64 Cf) (.int .i64 D)
  rw [← hW] at sI
  generalize hgO : w.heap.size = gO at sI
  have c1 : W.cell? ⟨gb, 1, none⟩ = some (.slice va es.length vc) := by rw [← hxv]; exact sI.b.ar.cell 1
  have c2 : W.cell? ⟨gb, 2, none⟩ = some (.slice sa ss.length sc) := by rw [← hsv]; exact sI.b.ar.cell 2
  have q0 : W.cell? ⟨gO, 0, none⟩ = some (.int .i64 2) := sI.o.cell 0
  have q1 : W.cell? ⟨gO, 1, none⟩ = some (.int .i64 A) := sI.o.cell 1
  have q2 : W.cell? ⟨gO, 2, none⟩ = some (.int .i64 Bf) := sI.o.cell 2
  have q3 : W.cell? ⟨gO, 3, none⟩ = some (.int .i64 Cf) := sI.o.cell 3
  have q4 : W.cell? ⟨gO, 4, none⟩ = some (.int .i64 D) := sI.o.cell 4
  have HS := Hid.mk sI
  have HV := Hid.mk hxv
  have HVS := Hid.mk hsv
  have HK := Hid.mk hk
  have HK2 := Hid.mk hk2
  have HI : Hid (I64 A ∧ I64 Bf ∧ I64 Cf ∧ I64 D) := Hid.mk ⟨hA, hB, hC, hD⟩
  clear h hk hk2 hxv hsv sI hA hB hC hD
  go_enter Try.func22, Try.ntmps22
  go_upto_region 1 with fail
  rw [← hW]
  clear hW hgO
  go_upto_region 10 with fail
  clear c1 c2 q0 q1 q2 q3 q4
  refine tq10_c (P := P) (gO := gO) (gE := 0) (A := A) (Bf := Bf) (Cf := Cf) (D := D) (Kf := 2) (focE (P := P) (cv := cv) (sv := sv) (pv := pv) (nv := nv) (cels := cels) (ss := ss) (bad := bad) (cu := cu) (nx := nx) (cf := cf) (nf := nf) HS.out.b.lo) rfl (by rw [← HV.out]; exact HS.out.drew.b.ar) (by rw [← HV.out]; exact HS.out.drew.b.r) (by have := HK.out; unfold BdK at this; have := HK2.out; omega) rfl rfl HS.out.drew.o HS.out.ne (fun e => OwnS.neA (by rw [← HV.out]; exact HS.out.drew.b.oe) HS.out.drew.o (by decide) e) HI.out.1 (by intro w' hC hAr; exact widthOf_c (BBr.b (cf := cf) (by rw [← HV.out] at hC; exact hC) (by rw [← HV.out] at hAr; exact hAr)) A) ?_
  rintro vs w' ⟨g, c, x, -, L⟩
  rw [← HV.out] at L
  have F := finE HS.out.drew HK.out L
  generalize h9 : lay _ _ = a9
  have hdf : a9.defers = [] := by rw [← h9, lay_defers]
  clear h9
  go_wp2_with fail
  exact bodyPost_end (results_none rfl a9.tmps Try.prog w') hdf ⟨rfl, F⟩
set_option maxRecDepth 8000 in
set_option maxHeartbeats 4000000 in
theorem step_3 {B : Nat} {P : Nat → Prop} {w : World} {gb : Nat} {cv xv sv pv nv : Value} {cels : List Cel} {es : List NE} {ss : List NS} {bad : NE} {cu nx : List (Int × Nat)} {cf : Bool} {nf : Int} {k : Nat} {A Bf Cf D : Int} (h : BB B P w gb cv xv sv pv nv cels es ss bad cu nx cf nf) (hk : BdK k cels es ss cu nx) (hk2 : k ≤ 80000) (hA : I64 A) (hB : I64 Bf) (hC : I64 Cf) (hD : I64 D) : Calls Try.prog 22 #[.pointer (some ⟨gb, 0, none⟩), .agg #[.int .i64 3, .int .i64 A, .int .i64 Bf, .int .i64 Cf, .int .i64 D]] w (StepO B gb k w) := by
  obtain ⟨va, vc, hxv⟩ := OwnS.len h.oe
  obtain ⟨sa, sc, hsv⟩ := OwnS.len h.os
  obtain ⟨W, hW⟩ : ∃ W, W = w.alloc (.cells #[.int .i64 3, .int .i64 A, .int .i64 Bf, .int .i64 Cf, .int .i64 D] 81) := ⟨_, rfl⟩
  have sI := SIn.of h (.int .i64 3) (.int .i64 A) (.int .i64 Bf) (.int .i64 Cf) (.int .i64 D)
  rw [← hW] at sI
  generalize hgO : w.heap.size = gO at sI
  have c1 : W.cell? ⟨gb, 1, none⟩ = some (.slice va es.length vc) := by rw [← hxv]; exact sI.b.ar.cell 1
  have c2 : W.cell? ⟨gb, 2, none⟩ = some (.slice sa ss.length sc) := by rw [← hsv]; exact sI.b.ar.cell 2
  have q0 : W.cell? ⟨gO, 0, none⟩ = some (.int .i64 3) := sI.o.cell 0
  have q1 : W.cell? ⟨gO, 1, none⟩ = some (.int .i64 A) := sI.o.cell 1
  have q2 : W.cell? ⟨gO, 2, none⟩ = some (.int .i64 Bf) := sI.o.cell 2
  have q3 : W.cell? ⟨gO, 3, none⟩ = some (.int .i64 Cf) := sI.o.cell 3
  have q4 : W.cell? ⟨gO, 4, none⟩ = some (.int .i64 D) := sI.o.cell 4
  have HS := Hid.mk sI
  have HV := Hid.mk hxv
  have HVS := Hid.mk hsv
  have HK := Hid.mk hk
  have HK2 := Hid.mk hk2
  have HI : Hid (I64 A ∧ I64 Bf ∧ I64 Cf ∧ I64 D) := Hid.mk ⟨hA, hB, hC, hD⟩
  clear h hk hk2 hxv hsv sI hA hB hC hD
  go_enter Try.func22, Try.ntmps22
  go_upto_region 1 with fail
  rw [← hW]
  clear hW hgO
  go_upto_region 12 with fail
  clear c1 c2 q0 q1 q2 q3 q4
  refine tq12_c (P := P) (gO := gO) (gE := 0) (A := A) (Bf := Bf) (Cf := Cf) (D := D) (Kf := 3) (focE (P := P) (cv := cv) (sv := sv) (pv := pv) (nv := nv) (cels := cels) (ss := ss) (bad := bad) (cu := cu) (nx := nx) (cf := cf) (nf := nf) HS.out.b.lo) rfl (by rw [← HV.out]; exact HS.out.drew.b.ar) (by rw [← HV.out]; exact HS.out.drew.b.r) (by have := HK.out; unfold BdK at this; have := HK2.out; omega) rfl   ?_
  rintro vs w' ⟨g, c, x, -, L⟩
  rw [← HV.out] at L
  have F := finE HS.out.drew HK.out L
  generalize h9 : lay _ _ = a9
  have hdf : a9.defers = [] := by rw [← h9, lay_defers]
  clear h9
  go_wp2_with fail
  exact bodyPost_end (results_none rfl a9.tmps Try.prog w') hdf ⟨rfl, F⟩
set_option maxRecDepth 8000 in
set_option maxHeartbeats 4000000 in
theorem step_9 {B : Nat} {P : Nat → Prop} {w : World} {gb : Nat} {cv xv sv pv nv : Value} {cels : List Cel} {es : List NE} {ss : List NS} {bad : NE} {cu nx : List (Int × Nat)} {cf : Bool} {nf : Int} {k : Nat} {A Bf Cf D : Int} (h : BB B P w gb cv xv sv pv nv cels es ss bad cu nx cf nf) (hk : BdK k cels es ss cu nx) (hk2 : k ≤ 80000) (hA : I64 A) (hB : I64 Bf) (hC : I64 Cf) (hD : I64 D) : Calls Try.prog 22 #[.pointer (some ⟨gb, 0, none⟩), .agg #[.int .i64 9, .int .i64 A, .int .i64 Bf, .int .i64 Cf, .int .i64 D]] w (StepO B gb k w) := by
  obtain ⟨va, vc, hxv⟩ := OwnS.len h.oe
  obtain ⟨sa, sc, hsv⟩ := OwnS.len h.os
  obtain ⟨W, hW⟩ : ∃ W, W = w.alloc (.cells #[.int .i64 9, .int .i64 A, .int .i64 Bf, .int .i64 Cf, .int .i64 D] 81) := ⟨_, rfl⟩
  have sI := SIn.of h (.int .i64 9) (.int .i64 A) (.int .i64 Bf) (.int .i64 Cf) (.int .i64 D)
  rw [← hW] at sI
  generalize hgO : w.heap.size = gO at sI
  have c1 : W.cell? ⟨gb, 1, none⟩ = some (.slice va es.length vc) := by rw [← hxv]; exact sI.b.ar.cell 1
  have c2 : W.cell? ⟨gb, 2, none⟩ = some (.slice sa ss.length sc) := by rw [← hsv]; exact sI.b.ar.cell 2
  have q0 : W.cell? ⟨gO, 0, none⟩ = some (.int .i64 9) := sI.o.cell 0
  have q1 : W.cell? ⟨gO, 1, none⟩ = some (.int .i64 A) := sI.o.cell 1
  have q2 : W.cell? ⟨gO, 2, none⟩ = some (.int .i64 Bf) := sI.o.cell 2
  have q3 : W.cell? ⟨gO, 3, none⟩ = some (.int .i64 Cf) := sI.o.cell 3
  have q4 : W.cell? ⟨gO, 4, none⟩ = some (.int .i64 D) := sI.o.cell 4
  have HS := Hid.mk sI
  have HV := Hid.mk hxv
  have HVS := Hid.mk hsv
  have HK := Hid.mk hk
  have HK2 := Hid.mk hk2
  have HI : Hid (I64 A ∧ I64 Bf ∧ I64 Cf ∧ I64 D) := Hid.mk ⟨hA, hB, hC, hD⟩
  clear h hk hk2 hxv hsv sI hA hB hC hD
  go_enter Try.func22, Try.ntmps22
  go_upto_region 1 with fail
  rw [← hW]
  clear hW hgO
  by_cases hn : es.length < 1
  · have j1 : ¬ ((1 : Int) ≤ (es.length : Int)) := by omega
    go_wp2_with fail
    go_end0
    have hk := HK.out
    unfold BdK at hk
    exact ⟨rfl, ⟨P, cv, xv, sv, pv, nv, cels, es, ss, bad, cu, nx, cf, nf, HS.out.b, by omega, by omega, by omega, by omega, by omega, by omega⟩, Fr.keep HS.out.k⟩
  · have j1 : ((1 : Int) ≤ (es.length : Int)) := by omega
    have HN : Hid (1 ≤ es.length) := Hid.mk (by omega)
    clear hn
    go_upto_region 41 with fail
    clear c1 c2 q0 q1 q2 q3 q4
    obtain ⟨l0, ys, hly, hyl⟩ : ∃ l0 ys, es = l0 ++ ys ∧ ys.length = 1 := by
      have := HN.out
      exact ⟨es.take (es.length - 1), es.drop (es.length - 1), (List.take_append_drop _ _).symm, by rw [List.length_drop]; omega⟩
    have hll : l0.length ≤ es.length := by rw [hly]; simp
    have sD := HS.out.drew
    rw [HVS.out] at sD
    refine tq41_c (fun hd1 P1 C1 => ∃ xv1, xv1.ownBlock = xv.ownBlock ∧ hd1 = (fun v => bbL cv xv1 v bad pv nv cf nf) ∧ C1 = (fun w v l => BBr B P1 w gb cv xv1 v pv nv cels l0 l bad cu nx nf)) (P := P) (gO := gO) (A := A) (Bf := Bf) (Cf := Cf) (D := D) (Kf := 9) (focS (P := P) (cv := cv) (xv := xv) (pv := pv) (nv := nv) (cels := cels) (es := es) (bad := bad) (cu := cu) (nx := nx) (cf := cf) (nf := nf) HS.out.b.lo) rfl sD.b.ar sD.b.r (by have := HK.out; unfold BdK at this; have := HK2.out; omega) rfl rfl HS.out.drew.o HS.out.ne (fun e => OwnS.neA (by rw [← HVS.out]; exact HS.out.drew.b.os) HS.out.drew.o (by decide) e) HI.out.1 HI.out.2.1 ?_ ?_
    · intro w' hC hAr
      have hb := BBr.b (cf := cf) hC hAr
      rw [hly] at hb
      have hp := popN_c hb (by have := HK.out; unfold BdK at this; have := HK2.out; omega) (by omega)
      rw [hyl] at hp
      refine hp.mono ?_
      rintro e w2 ⟨xv', gL, rfl, ob, nw, fr, bb, rr, el⟩
      exact ⟨_, _, fun q => P q ∨ q = gL, _, rfl, focS (xv := xv') bb.lo, ⟨xv', ob, rfl, rfl⟩, ⟨_, _, _, _, _, rfl, rr, el⟩, fr, bb.ar, bb.r⟩
    · rintro vs w' ⟨hd1, P1, C1, g, c, x, ⟨xv1, ob, rfl, rfl⟩, hx, L⟩
      have F : BSt B gb (k + 1) w' ∧ Fr (fun q => B ≤ q) w w' := by
        obtain ⟨k1, k2, k3, k4, k5, k6⟩ := HK.out
        refine ⟨⟨P1, cv, xv1, _, pv, nv, cels, l0, _, bad, cu, nx, cf, nf, BBr.b (cf := cf) L.c L.ar, by omega, by omega, by simp; omega, by omega, by omega, by rw [List.map_append, List.sum_append]; simp; omega⟩, sD.fr L.fr (fun q a => a.elim (fun e => Or.inl e) (fun a => Or.inr (Or.inr (Or.inr (Or.inl a)))))⟩
      generalize h9 : lay _ _ = a9
      have hdf : a9.defers = [] := by rw [← h9, lay_defers]
      clear h9
      go_wp2_with fail
      exact bodyPost_end (results_none rfl a9.tmps Try.prog w') hdf ⟨rfl, F⟩
set_option maxRecDepth 8000 in
set_option maxHeartbeats 4000000 in
theorem step_10 {B : Nat} {P : Nat → Prop} {w : World} {gb : Nat} {cv xv sv pv nv : Value} {cels : List Cel} {es : List NE} {ss : List NS} {bad : NE} {cu nx : List (Int × Nat)} {cf : Bool} {nf : Int} {k : Nat} {A Bf Cf D : Int} (h : BB B P w gb cv xv sv pv nv cels es ss bad cu nx cf nf) (hk : BdK k cels es ss cu nx) (hk2 : k ≤ 80000) (hA : I64 A) (hB : I64 Bf) (hC : I64 Cf) (hD : I64 D) : Calls Try.prog 22 #[.pointer (some ⟨gb, 0, none⟩), .agg #[.int .i64 10, .int .i64 A, .int .i64 Bf, .int .i64 Cf, .int .i64 D]] w (StepO B gb k w) := by
  obtain ⟨va, vc, hxv⟩ := OwnS.len h.oe
  obtain ⟨sa, sc, hsv⟩ := OwnS.len h.os
  obtain ⟨W, hW⟩ : ∃ W, W = w.alloc (.cells #[.int .i64 10, .int .i64 A, .int .i64 Bf, .int .i64 Cf, .int .i64 D] 81) := ⟨_, rfl⟩
  have sI := SIn.of h (.int .i64 10) (.int .i64 A) (.int .i64 Bf) (.int .i64 Cf) (.int .i64 D)
  rw [← hW] at sI
  generalize hgO : w.heap.size = gO at sI
  have c1 : W.cell? ⟨gb, 1, none⟩ = some (.slice va es.length vc) := by rw [← hxv]; exact sI.b.ar.cell 1
  have c2 : W.cell? ⟨gb, 2, none⟩ = some (.slice sa ss.length sc) := by rw [← hsv]; exact sI.b.ar.cell 2
  have q0 : W.cell? ⟨gO, 0, none⟩ = some (.int .i64 10) := sI.o.cell 0
  have q1 : W.cell? ⟨gO, 1, none⟩ = some (.int .i64 A) := sI.o.cell 1
  have q2 : W.cell? ⟨gO, 2, none⟩ = some (.int .i64 Bf) := sI.o.cell 2
  have q3 : W.cell? ⟨gO, 3, none⟩ = some (.int .i64 Cf) := sI.o.cell 3
  have q4 : W.cell? ⟨gO, 4, none⟩ = some (.int .i64 D) := sI.o.cell 4
  have HS := Hid.mk sI
  have HV := Hid.mk hxv
  have HVS := Hid.mk hsv
  have HK := Hid.mk hk
  have HK2 := Hid.mk hk2
  have HI : Hid (I64 A ∧ I64 Bf ∧ I64 Cf ∧ I64 D) := Hid.mk ⟨hA, hB, hC, hD⟩
  clear h hk hk2 hxv hsv sI hA hB hC hD
  go_enter Try.func22, Try.ntmps22
  go_upto_region 1 with fail
  rw [← hW]
  clear hW hgO
  by_cases hn : es.length < 2
  · have j1 : ¬ ((2 : Int) ≤ (es.length : Int)) := by omega
    go_wp2_with fail
    go_end0
    have hk := HK.out
    unfold BdK at hk
    exact ⟨rfl, ⟨P, cv, xv, sv, pv, nv, cels, es, ss, bad, cu, nx, cf, nf, HS.out.b, by omega, by omega, by omega, by omega, by omega, by omega⟩, Fr.keep HS.out.k⟩
  · have j1 : ((2 : Int) ≤ (es.length : Int)) := by omega
    have HN : Hid (2 ≤ es.length) := Hid.mk (by omega)
    clear hn
    go_upto_region 44 with fail
    clear c1 c2 q0 q1 q2 q3 q4
    obtain ⟨l0, ys, hly, hyl⟩ : ∃ l0 ys, es = l0 ++ ys ∧ ys.length = 2 := by
      have := HN.out
      exact ⟨es.take (es.length - 2), es.drop (es.length - 2), (List.take_append_drop _ _).symm, by rw [List.length_drop]; omega⟩
    have hll : l0.length ≤ es.length := by rw [hly]; simp
    have sD := HS.out.drew
    rw [HVS.out] at sD
    refine tq44_c (fun hd1 P1 C1 => ∃ xv1, xv1.ownBlock = xv.ownBlock ∧ hd1 = (fun v => bbL cv xv1 v bad pv nv cf nf) ∧ C1 = (fun w v l => BBr B P1 w gb cv xv1 v pv nv cels l0 l bad cu nx nf)) (P := P) (gO := gO) (A := A) (Bf := Bf) (Cf := Cf) (D := D) (Kf := 10) (focS (P := P) (cv := cv) (xv := xv) (pv := pv) (nv := nv) (cels := cels) (es := es) (bad := bad) (cu := cu) (nx := nx) (cf := cf) (nf := nf) HS.out.b.lo) rfl sD.b.ar sD.b.r (by have := HK.out; unfold BdK at this; have := HK2.out; omega) rfl rfl HS.out.drew.o HS.out.ne (fun e => OwnS.neA (by rw [← HVS.out]; exact HS.out.drew.b.os) HS.out.drew.o (by decide) e) HI.out.1 HI.out.2.1 ?_ ?_
    · intro w' hC hAr
      have hb := BBr.b (cf := cf) hC hAr
      rw [hly] at hb
      have hp := popN_c hb (by have := HK.out; unfold BdK at this; have := HK2.out; omega) (by omega)
      rw [hyl] at hp
      refine hp.mono ?_
      rintro e w2 ⟨xv', gL, rfl, ob, nw, fr, bb, rr, el⟩
      exact ⟨_, _, fun q => P q ∨ q = gL, _, rfl, focS (xv := xv') bb.lo, ⟨xv', ob, rfl, rfl⟩, ⟨_, _, _, _, _, rfl, rr, el⟩, fr, bb.ar, bb.r⟩
    · rintro vs w' ⟨hd1, P1, C1, g, c, x, ⟨xv1, ob, rfl, rfl⟩, hx, L⟩
      have F : BSt B gb (k + 1) w' ∧ Fr (fun q => B ≤ q) w w' := by
        obtain ⟨k1, k2, k3, k4, k5, k6⟩ := HK.out
        refine ⟨⟨P1, cv, xv1, _, pv, nv, cels, l0, _, bad, cu, nx, cf, nf, BBr.b (cf := cf) L.c L.ar, by omega, by omega, by simp; omega, by omega, by omega, by rw [List.map_append, List.sum_append]; simp; omega⟩, sD.fr L.fr (fun q a => a.elim (fun e => Or.inl e) (fun a => Or.inr (Or.inr (Or.inr (Or.inl a)))))⟩
      generalize h9 : lay _ _ = a9
      have hdf : a9.defers = [] := by rw [← h9, lay_defers]
      clear h9
      go_wp2_with fail
      exact bodyPost_end (results_none rfl a9.tmps Try.prog w') hdf ⟨rfl, F⟩
set_option maxRecDepth 8000 in
set_option maxHeartbeats 4000000 in
theorem step_14 {B : Nat} {P : Nat → Prop} {w : World} {gb : Nat} {cv xv sv pv nv : Value} {cels : List Cel} {es : List NE} {ss : List NS} {bad : NE} {cu nx : List (Int × Nat)} {cf : Bool} {nf : Int} {k : Nat} {A Bf Cf D : Int} (h : BB B P w gb cv xv sv pv nv cels es ss bad cu nx cf nf) (hk : BdK k cels es ss cu nx) (hk2 : k ≤ 80000) (hA : I64 A) (hB : I64 Bf) (hC : I64 Cf) (hD : I64 D) : Calls Try.prog 22 #[.pointer (some ⟨gb, 0, none⟩), .agg #[.int .i64 14, .int .i64 A, .int .i64 Bf, .int .i64 Cf, .int .i64 D]] w (StepO B gb k w) := by
  obtain ⟨va, vc, hxv⟩ := OwnS.len h.oe
  obtain ⟨sa, sc, hsv⟩ := OwnS.len h.os
  obtain ⟨W, hW⟩ : ∃ W, W = w.alloc (.cells #[.int .i64 14, .int .i64 A, .int .i64 Bf, .int .i64 Cf, .int .i64 D] 81) := ⟨_, rfl⟩
  have sI := SIn.of h (.int .i64 14) (.int .i64 A) (.int .i64 Bf) (.int .i64 Cf) (.int .i64 D)
  rw [← hW] at sI
  generalize hgO : w.heap.size = gO at sI
  have c1 : W.cell? ⟨gb, 1, none⟩ = some (.slice va es.length vc) := by rw [← hxv]; exact sI.b.ar.cell 1
  have c2 : W.cell? ⟨gb, 2, none⟩ = some (.slice sa ss.length sc) := by rw [← hsv]; exact sI.b.ar.cell 2
  have q0 : W.cell? ⟨gO, 0, none⟩ = some (.int .i64 14) := sI.o.cell 0
  have q1 : W.cell? ⟨gO, 1, none⟩ = some (.int .i64 A) := sI.o.cell 1
  have q2 : W.cell? ⟨gO, 2, none⟩ = some (.int .i64 Bf) := sI.o.cell 2
  have q3 : W.cell? ⟨gO, 3, none⟩ = some (.int .i64 Cf) := sI.o.cell 3
  have q4 : W.cell? ⟨gO, 4, none⟩ = some (.int .i64 D) := sI.o.cell 4
  have HS := Hid.mk sI
  have HV := Hid.mk hxv
  have HVS := Hid.mk hsv
  have HK := Hid.mk hk
  have HK2 := Hid.mk hk2
  have HI : Hid (I64 A ∧ I64 Bf ∧ I64 Cf ∧ I64 D) := Hid.mk ⟨hA, hB, hC, hD⟩
  clear h hk hk2 hxv hsv sI hA hB hC hD
  go_enter Try.func22, Try.ntmps22
  go_upto_region 1 with fail
  rw [← hW]
  clear hW hgO
  by_cases hn : es.length < 1
  · have j1 : ¬ ((1 : Int) ≤ (es.length : Int)) := by omega
    go_wp2_with fail
    go_end0
    have hk := HK.out
    unfold BdK at hk
    exact ⟨rfl, ⟨P, cv, xv, sv, pv, nv, cels, es, ss, bad, cu, nx, cf, nf, HS.out.b, by omega, by omega, by omega, by omega, by omega, by omega⟩, Fr.keep HS.out.k⟩
  · have j1 : ((1 : Int) ≤ (es.length : Int)) := by omega
    obtain ⟨l0, x, hly⟩ : ∃ l0 x, es = l0 ++ [x] := ⟨es.dropLast, es.getLast (fun e => by rw [e] at hn; simp at hn), (List.dropLast_concat_getLast _).symm⟩
    have hb := HS.out.b
    rw [hly] at hb
    obtain ⟨ka, kc, hkx, -, -⟩ := (hb.he x (by simp)).2.1.form
    have hp := pop_c hb (by have h8 := HK.out; unfold BdK at h8; have := HK2.out; have : es.length = l0.length + 1 := (by rw [hly]; simp); omega)
    rw [neC, efC, hkx] at hp
    have HXX := Hid.mk (hb.he x (by simp))
    have HP := Hid.mk hp
    have HLY := Hid.mk hly
    have HKX := Hid.mk hkx
    have HLL : Hid (l0.length + 1 = es.length) := Hid.mk (by rw [hly]; simp)
    have HSP : Hid (∀ q, P q → q ≠ gb) := Hid.mk (fun q a => (hb.sp q a).2.2.1)
    clear hb hp hly hkx hn
    go_wp2_with fail
    refine HP.out.mono ?_
    rintro e w2 ⟨xv', rfl, ob, bb, fr⟩
    have aB := bb.ar
    have t3 : w2.cell? ⟨gb, 3, none⟩ = some (.int .i64 bad.f.k) := aB.cell 3
    have t4 : w2.cell? ⟨gb, 4, none⟩ = some (.int .i64 bad.f.w) := aB.cell 4
    have t5 : w2.cell? ⟨gb, 5, none⟩ = some (.int .i64 bad.f.o) := aB.cell 5
    have t6 : w2.cell? ⟨gb, 6, none⟩ = some (.int .u64 (bad.f.v : Nat)) := aB.cell 6
    have t7 : w2.cell? ⟨gb, 7, none⟩ = some (.int .i64 bad.f.c) := aB.cell 7
    have t8 : w2.cell? ⟨gb, 8, none⟩ = some (.int .i64 bad.f.l) := aB.cell 8
    have t9 : w2.cell? ⟨gb, 9, none⟩ = some bad.kv := aB.cell 9
    have u3 := aB.frozen 3
    have u4 := aB.frozen 4
    have u5 := aB.frozen 5
    have u6 := aB.frozen 6
    have u7 := aB.frozen 7
    have u8 := aB.frozen 8
    have u9 := aB.frozen 9
    have HBB := Hid.mk bb
    have HFR := Hid.mk fr
    have HOB := Hid.mk ob
    clear aB bb fr ob
    go_wp2_with fail
    go_end0
    have hk := HK.out
    unfold BdK at hk
    have hll := HLL.out
    have R9 := HBB.out.r.bad' HBB.out.ar ((HXX.out.step (KP.fr HFR.out (fun q a e => HSP.out q a e)))) 
    rw [neC, efC, HKX.out] at R9
    have A9 := stC_arr [.int .i64 x.f.k, .int .i64 x.f.w, .int .i64 x.f.o, .int .u64 ((x.f.v : Nat) : Int), .int .i64 x.f.c, .int .i64 x.f.l, .slice ka x.kr.length kc] w2 _ 3 HBB.out.ar
    refine ⟨rfl, ⟨P, cv, xv', sv, pv, nv, cels, l0, ss, x, cu, nx, cf, nf, R9.1.b ?_, by omega, by omega, by omega, by omega, by omega, by omega⟩, HS.out.fr (HFR.out.trans R9.2) (fun q e => Or.inl e)⟩
    have e9 : bbL cv xv' sv x pv nv cf nf = setSeq (bbL cv xv' sv bad pv nv cf nf) 3 [.int .i64 x.f.k, .int .i64 x.f.w, .int .i64 x.f.o, .int .u64 ((x.f.v : Nat) : Int), .int .i64 x.f.c, .int .i64 x.f.l, .slice ka x.kr.length kc] := by
      rw [← HKX.out]; rfl
    rw [e9]
    exact A9
set_option maxRecDepth 8000 in
set_option maxHeartbeats 4000000 in
theorem step_15 {B : Nat} {P : Nat → Prop} {w : World} {gb : Nat} {cv xv sv pv nv : Value} {cels : List Cel} {es : List NE} {ss : List NS} {bad : NE} {cu nx : List (Int × Nat)} {cf : Bool} {nf : Int} {k : Nat} {A Bf Cf D : Int} (h : BB B P w gb cv xv sv pv nv cels es ss bad cu nx cf nf) (hk : BdK k cels es ss cu nx) (hk2 : k ≤ 80000) (hA : I64 A) (hB : I64 Bf) (hC : I64 Cf) (hD : I64 D) : Calls Try.prog 22 #[.pointer (some ⟨gb, 0, none⟩), .agg #[.int .i64 15, .int .i64 A, .int .i64 Bf, .int .i64 Cf, .int .i64 D]] w (StepO B gb k w) := by
  obtain ⟨va, vc, hxv⟩ := OwnS.len h.oe
  obtain ⟨sa, sc, hsv⟩ := OwnS.len h.os
  obtain ⟨W, hW⟩ : ∃ W, W = w.alloc (.cells #[.int .i64 15, .int .i64 A, .int .i64 Bf, .int .i64 Cf, .int .i64 D] 81) := ⟨_, rfl⟩
  have sI := SIn.of h (.int .i64 15) (.int .i64 A) (.int .i64 Bf) (.int .i64 Cf) (.int .i64 D)
  rw [← hW] at sI
  generalize hgO : w.heap.size = gO at sI
  have c1 : W.cell? ⟨gb, 1, none⟩ = some (.slice va es.length vc) := by rw [← hxv]; exact sI.b.ar.cell 1
  have c2 : W.cell? ⟨gb, 2, none⟩ = some (.slice sa ss.length sc) := by rw [← hsv]; exact sI.b.ar.cell 2
  have q0 : W.cell? ⟨gO, 0, none⟩ = some (.int .i64 15) := sI.o.cell 0
  have q1 : W.cell? ⟨gO, 1, none⟩ = some (.int .i64 A) := sI.o.cell 1
  have q2 : W.cell? ⟨gO, 2, none⟩ = some (.int .i64 Bf) := sI.o.cell 2
  have q3 : W.cell? ⟨gO, 3, none⟩ = some (.int .i64 Cf) := sI.o.cell 3
  have q4 : W.cell? ⟨gO, 4, none⟩ = some (.int .i64 D) := sI.o.cell 4
  have HS := Hid.mk sI
  have HV := Hid.mk hxv
  have HVS := Hid.mk hsv
  have HK := Hid.mk hk
  have HK2 := Hid.mk hk2
  have HI : Hid (I64 A ∧ I64 Bf ∧ I64 Cf ∧ I64 D) := Hid.mk ⟨hA, hB, hC, hD⟩
  clear h hk hk2 hxv hsv sI hA hB hC hD
  go_enter Try.func22, Try.ntmps22
  go_upto_region 1 with fail
  rw [← hW]
  clear hW hgO
  go_upto_region 66 with fail
  clear c1 c2 q0 q1 q2 q3 q4
  obtain ⟨xa9, xc9, hx9⟩ := OwnS.len HS.out.b.ou
  have HVX := Hid.mk hx9
  clear hx9
  refine tq66_c (P := P) (gO := gO) (gE := 0) (A := A) (Bf := Bf) (Cf := Cf) (D := D) (Kf := 15) (focU (P := P) (cv := cv) (xv := xv) (sv := sv) (nv := nv) (cels := cels) (es := es) (ss := ss) (bad := bad) (nx := nx) (cf := cf) (nf := nf) HS.out.b.lo) rfl (by rw [← HVX.out]; exact HS.out.drew.b.ar) (by rw [← HVX.out]; exact HS.out.drew.b.r) (by have := HK.out; unfold BdK at this; have := HK2.out; omega) rfl rfl HS.out.drew.o HS.out.ne (fun e => OwnS.neA (by rw [← HVX.out]; exact HS.out.drew.b.ou) HS.out.drew.o (by decide) e) HI.out.1 ?_
  rintro vs w' ⟨g, c, x, -, L⟩
  rw [← HVX.out] at L
  have F := finU HS.out.drew HK.out L
  generalize h9 : lay _ _ = a9
  have hdf : a9.defers = [] := by rw [← h9, lay_defers]
  clear h9
  go_wp2_with fail
  exact bodyPost_end (results_none rfl a9.tmps Try.prog w') hdf ⟨rfl, F⟩
set_option maxRecDepth 8000 in
set_option maxHeartbeats 4000000 in
theorem step_16 {B : Nat} {P : Nat → Prop} {w : World} {gb : Nat} {cv xv sv pv nv : Value} {cels : List Cel} {es : List NE} {ss : List NS} {bad : NE} {cu nx : List (Int × Nat)} {cf : Bool} {nf : Int} {k : Nat} {A Bf Cf D : Int} (h : BB B P w gb cv xv sv pv nv cels es ss bad cu nx cf nf) (hk : BdK k cels es ss cu nx) (hk2 : k ≤ 80000) (hA : I64 A) (hB : I64 Bf) (hC : I64 Cf) (hD : I64 D) : Calls Try.prog 22 #[.pointer (some ⟨gb, 0, none⟩), .agg #[.int .i64 16, .int .i64 A, .int .i64 Bf, .int .i64 Cf, .int .i64 D]] w (StepO B gb k w) := by
  obtain ⟨va, vc, hxv⟩ := OwnS.len h.oe
  obtain ⟨sa, sc, hsv⟩ := OwnS.len h.os
  obtain ⟨W, hW⟩ : ∃ W, W = w.alloc (.cells #[.int .i64 16, .int .i64 A, .int .i64 Bf, .int .i64 Cf, .int .i64 D] 81) := ⟨_, rfl⟩
  have sI := SIn.of h (.int .i64 16) (.int .i64 A) (.int .i64 Bf) (.int .i64 Cf) (.int .i64 D)
  rw [← hW] at sI
  generalize hgO : w.heap.size = gO at sI
  have c1 : W.cell? ⟨gb, 1, none⟩ = some (.slice va es.length vc) := by rw [← hxv]; exact sI.b.ar.cell 1
  have c2 : W.cell? ⟨gb, 2, none⟩ = some (.slice sa ss.length sc) := by rw [← hsv]; exact sI.b.ar.cell 2
  have q0 : W.cell? ⟨gO, 0, none⟩ = some (.int .i64 16) := sI.o.cell 0
  have q1 : W.cell? ⟨gO, 1, none⟩ = some (.int .i64 A) := sI.o.cell 1
  have q2 : W.cell? ⟨gO, 2, none⟩ = some (.int .i64 Bf) := sI.o.cell 2
  have q3 : W.cell? ⟨gO, 3, none⟩ = some (.int .i64 Cf) := sI.o.cell 3
  have q4 : W.cell? ⟨gO, 4, none⟩ = some (.int .i64 D) := sI.o.cell 4
  have HS := Hid.mk sI
  have HV := Hid.mk hxv
  have HVS := Hid.mk hsv
  have HK := Hid.mk hk
  have HK2 := Hid.mk hk2
  have HI : Hid (I64 A ∧ I64 Bf ∧ I64 Cf ∧ I64 D) := Hid.mk ⟨hA, hB, hC, hD⟩
  clear h hk hk2 hxv hsv sI hA hB hC hD
  go_enter Try.func22, Try.ntmps22
  go_upto_region 1 with fail
  rw [← hW]
  clear hW hgO
  have y12 : W.cell? ⟨gb, 12, none⟩ = some (.bool cf) := HS.out.b.ar.cell 12
  have z12 := HS.out.b.ar.frozen 12
  have y13 : W.cell? ⟨gb, 13, none⟩ = some (.int .i64 nf) := HS.out.b.ar.cell 13
  have z13 := HS.out.b.ar.frozen 13
  obtain ⟨bt, hbt⟩ : ∃ bt, (bits BinOp.and IntKind.i64 A 1 == 1) = bt := ⟨_, rfl⟩
  go_wp2_with fail
  go_end0
  have hk := HK.out
  unfold BdK at hk
  have R9 := HS.out.b.r.hd HS.out.b.ar (.bool bt) 12
  exact ⟨rfl, ⟨P, cv, xv, sv, pv, nv, cels, es, ss, bad, cu, nx, bt, nf, R9.1.b (HS.out.b.ar.set 12 _), by omega, by omega, by omega, by omega, by omega, by omega⟩, HS.out.fr R9.2 (fun q e => Or.inl e)⟩
set_option maxRecDepth 8000 in
set_option maxHeartbeats 4000000 in
theorem step_17 {B : Nat} {P : Nat → Prop} {w : World} {gb : Nat} {cv xv sv pv nv : Value} {cels : List Cel} {es : List NE} {ss : List NS} {bad : NE} {cu nx : List (Int × Nat)} {cf : Bool} {nf : Int} {k : Nat} {A Bf Cf D : Int} (h : BB B P w gb cv xv sv pv nv cels es ss bad cu nx cf nf) (hk : BdK k cels es ss cu nx) (hk2 : k ≤ 80000) (hA : I64 A) (hB : I64 Bf) (hC : I64 Cf) (hD : I64 D) : Calls Try.prog 22 #[.pointer (some ⟨gb, 0, none⟩), .agg #[.int .i64 17, .int .i64 A, .int .i64 Bf, .int .i64 Cf, .int .i64 D]] w (StepO B gb k w) := by
  obtain ⟨va, vc, hxv⟩ := OwnS.len h.oe
  obtain ⟨sa, sc, hsv⟩ := OwnS.len h.os
  obtain ⟨W, hW⟩ : ∃ W, W = w.alloc (.cells #[.int .i64 17, .int .i64 A, .int .i64 Bf, .int .i64 Cf, .int .i64 D] 81) := ⟨_, rfl⟩
  have sI := SIn.of h (.int .i64 17) (.int .i64 A) (.int .i64 Bf) (.int .i64 Cf) (.int .i64 D)
  rw [← hW] at sI
  generalize hgO : w.heap.size = gO at sI
  have c1 : W.cell? ⟨gb, 1, none⟩ = some (.slice va es.length vc) := by rw [← hxv]; exact sI.b.ar.cell 1
  have c2 : W.cell? ⟨gb, 2, none⟩ = some (.slice sa ss.length sc) := by rw [← hsv]; exact sI.b.ar.cell 2
  have q0 : W.cell? ⟨gO, 0, none⟩ = some (.int .i64 17) := sI.o.cell 0
  have q1 : W.cell? ⟨gO, 1, none⟩ = some (.int .i64 A) := sI.o.cell 1
  have q2 : W.cell? ⟨gO, 2, none⟩ = some (.int .i64 Bf) := sI.o.cell 2
  have q3 : W.cell? ⟨gO, 3, none⟩ = some (.int .i64 Cf) := sI.o.cell 3
  have q4 : W.cell? ⟨gO, 4, none⟩ = some (.int .i64 D) := sI.o.cell 4
  have HS := Hid.mk sI
  have HV := Hid.mk hxv
  have HVS := Hid.mk hsv
  have HK := Hid.mk hk
  have HK2 := Hid.mk hk2
  have HI : Hid (I64 A ∧ I64 Bf ∧ I64 Cf ∧ I64 D) := Hid.mk ⟨hA, hB, hC, hD⟩
  clear h hk hk2 hxv hsv sI hA hB hC hD
  go_enter Try.func22, Try.ntmps22
  go_upto_region 1 with fail
  rw [← hW]
  clear hW hgO
  go_upto_region 70 with fail
  clear c1 c2 q0 q1 q2 q3 q4
  obtain ⟨xa9, xc9, hx9⟩ := OwnS.len HS.out.b.on
  have HVX := Hid.mk hx9
  clear hx9
  refine tq70_c (P := P) (gO := gO) (gE := 0) (A := A) (Bf := Bf) (Cf := Cf) (D := D) (Kf := 17) (focN (P := P) (cv := cv) (xv := xv) (sv := sv) (pv := pv) (cels := cels) (es := es) (ss := ss) (bad := bad) (cu := cu) (cf := cf) (nf := nf) HS.out.b.lo) rfl (by rw [← HVX.out]; exact HS.out.drew.b.ar) (by rw [← HVX.out]; exact HS.out.drew.b.r) (by have := HK.out; unfold BdK at this; have := HK2.out; omega) rfl rfl HS.out.drew.o HS.out.ne (fun e => OwnS.neA (by rw [← HVX.out]; exact HS.out.drew.b.on) HS.out.drew.o (by decide) e) HI.out.1 ?_
  rintro vs w' ⟨g, c, x, -, L⟩
  rw [← HVX.out] at L
  have F := finN HS.out.drew HK.out L
  generalize h9 : lay _ _ = a9
  have hdf : a9.defers = [] := by rw [← h9, lay_defers]
  clear h9
  go_wp2_with fail
  exact bodyPost_end (results_none rfl a9.tmps Try.prog w') hdf ⟨rfl, F⟩
set_option maxRecDepth 8000 in
set_option maxHeartbeats 4000000 in
theorem step_18 {B : Nat} {P : Nat → Prop} {w : World} {gb : Nat} {cv xv sv pv nv : Value} {cels : List Cel} {es : List NE} {ss : List NS} {bad : NE} {cu nx : List (Int × Nat)} {cf : Bool} {nf : Int} {k : Nat} {A Bf Cf D : Int} (h : BB B P w gb cv xv sv pv nv cels es ss bad cu nx cf nf) (hk : BdK k cels es ss cu nx) (hk2 : k ≤ 80000) (hA : I64 A) (hB : I64 Bf) (hC : I64 Cf) (hD : I64 D) : Calls Try.prog 22 #[.pointer (some ⟨gb, 0, none⟩), .agg #[.int .i64 18, .int .i64 A, .int .i64 Bf, .int .i64 Cf, .int .i64 D]] w (StepO B gb k w) := by
  obtain ⟨va, vc, hxv⟩ := OwnS.len h.oe
  obtain ⟨sa, sc, hsv⟩ := OwnS.len h.os
  obtain ⟨W, hW⟩ : ∃ W, W = w.alloc (.cells #[.int .i64 18, .int .i64 A, .int .i64 Bf, .int .i64 Cf, .int .i64 D] 81) := ⟨_, rfl⟩
  have sI := SIn.of h (.int .i64 18) (.int .i64 A) (.int .i64 Bf) (.int .i64 Cf) (.int .i64 D)
  rw [← hW] at sI
  generalize hgO : w.heap.size = gO at sI
  have c1 : W.cell? ⟨gb, 1, none⟩ = some (.slice va es.length vc) := by rw [← hxv]; exact sI.b.ar.cell 1
  have c2 : W.cell? ⟨gb, 2, none⟩ = some (.slice sa ss.length sc) := by rw [← hsv]; exact sI.b.ar.cell 2
  have q0 : W.cell? ⟨gO, 0, none⟩ = some (.int .i64 18) := sI.o.cell 0
  have q1 : W.cell? ⟨gO, 1, none⟩ = some (.int .i64 A) := sI.o.cell 1
  have q2 : W.cell? ⟨gO, 2, none⟩ = some (.int .i64 Bf) := sI.o.cell 2
  have q3 : W.cell? ⟨gO, 3, none⟩ = some (.int .i64 Cf) := sI.o.cell 3
  have q4 : W.cell? ⟨gO, 4, none⟩ = some (.int .i64 D) := sI.o.cell 4
  have HS := Hid.mk sI
  have HV := Hid.mk hxv
  have HVS := Hid.mk hsv
  have HK := Hid.mk hk
  have HK2 := Hid.mk hk2
  have HI : Hid (I64 A ∧ I64 Bf ∧ I64 Cf ∧ I64 D) := Hid.mk ⟨hA, hB, hC, hD⟩
  clear h hk hk2 hxv hsv sI hA hB hC hD
  go_enter Try.func22, Try.ntmps22
  go_upto_region 1 with fail
  rw [← hW]
  clear hW hgO
  have y12 : W.cell? ⟨gb, 12, none⟩ = some (.bool cf) := HS.out.b.ar.cell 12
  have z12 := HS.out.b.ar.frozen 12
  have y13 : W.cell? ⟨gb, 13, none⟩ = some (.int .i64 nf) := HS.out.b.ar.cell 13
  have z13 := HS.out.b.ar.frozen 13
  obtain ⟨z, hz⟩ : ∃ z, IntKind.i64.wrap (1 + bits BinOp.and IntKind.i64 A 1) = z := ⟨_, rfl⟩
  have HZ : Hid (I64 z) := Hid.mk (by rw [← hz, IntKind.wrap_i64]; unfold I64; omega)
  go_wp2_with fail
  go_end0
  have hk := HK.out
  unfold BdK at hk
  have R9 := HS.out.b.r.hd HS.out.b.ar (.int .i64 z) 13
  exact ⟨rfl, ⟨P, cv, xv, sv, pv, nv, cels, es, ss, bad, cu, nx, cf, z, (R9.1.nf' HZ.out).b (HS.out.b.ar.set 13 _), by omega, by omega, by omega, by omega, by omega, by omega⟩, HS.out.fr R9.2 (fun q e => Or.inl e)⟩
set_option maxRecDepth 8000 in
set_option maxHeartbeats 4000000 in
theorem step_x {B : Nat} {P : Nat → Prop} {w : World} {gb : Nat} {cv xv sv pv nv : Value} {cels : List Cel} {es : List NE} {ss : List NS} {bad : NE} {cu nx : List (Int × Nat)} {cf : Bool} {nf : Int} {k : Nat} {A Bf Cf D Kf : Int} (h : BB B P w gb cv xv sv pv nv cels es ss bad cu nx cf nf) (hk : BdK k cels es ss cu nx) (hk2 : k ≤ 80000) (hA : I64 A) (hB : I64 Bf) (hC : I64 Cf) (hD : I64 D) (n0 : ¬ Kf = 0) (n1 : ¬ Kf = 1) (n2 : ¬ Kf = 2) (n3 : ¬ Kf = 3) (n4 : ¬ Kf = 4) (n5 : ¬ Kf = 5) (n6 : ¬ Kf = 6) (n7 : ¬ Kf = 7) (n8 : ¬ Kf = 8) (n9 : ¬ Kf = 9) (n10 : ¬ Kf = 10) (n11 : ¬ Kf = 11) (n12 : ¬ Kf = 12) (n13 : ¬ Kf = 13) (n14 : ¬ Kf = 14) (n15 : ¬ Kf = 15) (n16 : ¬ Kf = 16) (n17 : ¬ Kf = 17) (n18 : ¬ Kf = 18) : Calls Try.prog 22 #[.pointer (some ⟨gb, 0, none⟩), .agg #[.int .i64 Kf, .int .i64 A, .int .i64 Bf, .int .i64 Cf, .int .i64 D]] w (StepO B gb k w) := by
  obtain ⟨va, vc, hxv⟩ := OwnS.len h.oe
  obtain ⟨sa, sc, hsv⟩ := OwnS.len h.os
  obtain ⟨W, hW⟩ : ∃ W, W = w.alloc (.cells #[.int .i64 Kf, .int .i64 A, .int .i64 Bf, .int .i64 Cf, .int .i64 D] 81) := ⟨_, rfl⟩
  have sI := SIn.of h (.int .i64 Kf) (.int .i64 A) (.int .i64 Bf) (.int .i64 Cf) (.int .i64 D)
  rw [← hW] at sI
  generalize hgO : w.heap.size = gO at sI
  have c1 : W.cell? ⟨gb, 1, none⟩ = some (.slice va es.length vc) := by rw [← hxv]; exact sI.b.ar.cell 1
  have c2 : W.cell? ⟨gb, 2, none⟩ = some (.slice sa ss.length sc) := by rw [← hsv]; exact sI.b.ar.cell 2
  have q0 : W.cell? ⟨gO, 0, none⟩ = some (.int .i64 Kf) := sI.o.cell 0
  have q1 : W.cell? ⟨gO, 1, none⟩ = some (.int .i64 A) := sI.o.cell 1
  have q2 : W.cell? ⟨gO, 2, none⟩ = some (.int .i64 Bf) := sI.o.cell 2
  have q3 : W.cell? ⟨gO, 3, none⟩ = some (.int .i64 Cf) := sI.o.cell 3
  have q4 : W.cell? ⟨gO, 4, none⟩ = some (.int .i64 D) := sI.o.cell 4
  have HS := Hid.mk sI
  have HV := Hid.mk hxv
  have HVS := Hid.mk hsv
  have HK := Hid.mk hk
  have HK2 := Hid.mk hk2
  have HI : Hid (I64 A ∧ I64 Bf ∧ I64 Cf ∧ I64 D) := Hid.mk ⟨hA, hB, hC, hD⟩
  clear h hk hk2 hxv hsv sI hA hB hC hD
  go_enter Try.func22, Try.ntmps22
  go_upto_region 1 with fail
  rw [← hW]
  clear hW hgO
  go_wp2_with fail
  go_end0
  have hk := HK.out
  unfold BdK at hk
  exact ⟨rfl, ⟨P, cv, xv, sv, pv, nv, cels, es, ss, bad, cu, nx, cf, nf, HS.out.b, by omega, by omega, by omega, by omega, by omega, by omega⟩, Fr.keep HS.out.k⟩
end Go.Proofs.Qxb6500772a
