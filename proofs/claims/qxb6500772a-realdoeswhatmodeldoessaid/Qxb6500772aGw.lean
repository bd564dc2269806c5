/- blastlaw: step. -/
import Derived.Test.Qxb6500772aGu
import Derived.BigQuiet
namespace Go.Proofs.Qxb6500772a
open Go Go.RowKit Go.Qm
set_option linter.unusedVariables false
set_option linter.unusedSimpArgs false
attribute [local go_sem ↓] Go.wp_at_zero Go.wp_at_succ
set_option maxRecDepth 8000 in
set_option maxHeartbeats 4000000 in
theorem step_11 {B : Nat} {P : Nat → Prop} {w : World} {gb : Nat} {cv xv sv pv nv : Value} {cels : List Cel} {es : List NE} {ss : List NS} {bad : NE} {cu nx : List (Int × Nat)} {cf : Bool} {nf : Int} {k : Nat} {A Bf Cf D : Int} (h : BB B P w gb cv xv sv pv nv cels es ss bad cu nx cf nf) (hk : BdK k cels es ss cu nx) (hk2 : k ≤ 80000) (hA : I64 A) (hB : I64 Bf) (hC : I64 Cf) (hD : I64 D) : Calls Try.prog 22 #[.pointer (some ⟨gb, 0, none⟩), .agg #[.int .i64 11, .int .i64 A, .int .i64 Bf, .int .i64 Cf, .int .i64 D]] w (StepO B gb k w) := by
  obtain ⟨va, vc, hxv⟩ := OwnS.len h.oe
  obtain ⟨sa, sc, hsv⟩ := OwnS.len h.os
  obtain ⟨W, hW⟩ : ∃ W, W = w.alloc (.cells #[.int .i64 11, .int .i64 A, .int .i64 Bf, .int .i64 Cf, .int .i64 D] 81) := ⟨_, rfl⟩
  have sI := SIn.of h (.int .i64 11) (.int .i64 A) (.int .i64 Bf) (.int .i64 Cf) (.int .i64 D)
  rw [← hW] at sI
  generalize hgO : w.heap.size = gO at sI
  have c1 : W.cell? ⟨gb, 1, none⟩ = some (.slice va es.length vc) := by rw [← hxv]; exact sI.b.ar.cell 1
  have c2 : W.cell? ⟨gb, 2, none⟩ = some (.slice sa ss.length sc) := by rw [← hsv]; exact sI.b.ar.cell 2
  have q0 : W.cell? ⟨gO, 0, none⟩ = some (.int .i64 11) := sI.o.cell 0
  have q1 : W.cell? ⟨gO, 1, none⟩ = some (.int .i64 A) := sI.o.cell 1
  have q2 : W.cell? ⟨gO, 2, none⟩ = some (.int .i64 Bf) := sI.o.cell 2
  have q3 : W.cell? ⟨gO, 3, none⟩ = some (.int .i64 Cf) := sI.o.cell 3
  have q4 : W.cell? ⟨gO, 4, none⟩ = some (.int .i64 D) := sI.o.cell 4
  have HS := Hid.mk sI
  have HV := Hid.mk hxv
  have HVS := Hid.mk hsv
  have HK := Hid.mk hk
  have HK2 := Hid.mk hk2
  have HI : Hid (I64 A ∧ I64 Bf ∧ I64 Cf ∧ I64 D) := Hid.mk ⟨hA, hB, hC, hD⟩
  clear h hk hk2 hxv hsv sI hA hB hC hD
  go_enter Try.func22, Try.ntmps22
  go_upto_region 1 with fail
  rw [← hW]
  clear hW hgO
  by_cases hn : es.length < 1
  · have j1 : ¬ ((1 : Int) ≤ (es.length : Int)) := by omega
    go_upto_region 46 with fail
    go_quiet (fail)
    have hk := HK.out
    unfold BdK at hk
    go_wp2_with fail
    go_end0
    exact ⟨rfl, ⟨P, cv, xv, sv, pv, nv, cels, es, ss, bad, cu, nx, cf, nf, (HS.out.drewN _).b, by omega, by omega, by omega, by omega, by omega, by omega⟩, Fr.keep (HS.out.drewN _).k⟩
  have j1 : ((1 : Int) ≤ (es.length : Int)) := by omega
  by_cases ha0 : A < 0
  · have e1 : ¬ (0 : Int) ≤ A := by omega
    go_upto_region 46 with fail
    go_quiet (fail)
    have hk := HK.out
    unfold BdK at hk
    go_wp2_with fail
    go_end0
    exact ⟨rfl, ⟨P, cv, xv, sv, pv, nv, cels, es, ss, bad, cu, nx, cf, nf, (HS.out.drewN _).b, by omega, by omega, by omega, by omega, by omega, by omega⟩, Fr.keep (HS.out.drewN _).k⟩
  obtain ⟨na, rfl⟩ : ∃ na : Nat, A = na := ⟨A.toNat, by omega⟩
  have e1 : (0 : Int) ≤ (na : Int) := by omega
  by_cases hb0 : Bf < 0
  · have e2 : ¬ (0 : Int) ≤ Bf := by omega
    go_upto_region 46 with fail
    go_quiet (fail)
    have hk := HK.out
    unfold BdK at hk
    go_wp2_with fail
    go_end0
    exact ⟨rfl, ⟨P, cv, xv, sv, pv, nv, cels, es, ss, bad, cu, nx, cf, nf, (HS.out.drewN _).b, by omega, by omega, by omega, by omega, by omega, by omega⟩, Fr.keep (HS.out.drewN _).k⟩
  obtain ⟨nb, rfl⟩ : ∃ nb : Nat, Bf = nb := ⟨Bf.toNat, by omega⟩
  have e2 : (0 : Int) ≤ (nb : Int) := by omega
  by_cases hal : ss.length < na
  · have e3 : ¬ (na : Int) ≤ (ss.length : Int) := by omega
    go_upto_region 46 with fail
    go_quiet (fail)
    have hk := HK.out
    unfold BdK at hk
    go_wp2_with fail
    go_end0
    exact ⟨rfl, ⟨P, cv, xv, sv, pv, nv, cels, es, ss, bad, cu, nx, cf, nf, (HS.out.drewN _).b, by omega, by omega, by omega, by omega, by omega, by omega⟩, Fr.keep (HS.out.drewN _).k⟩
  have e3 : (na : Int) ≤ (ss.length : Int) := by omega
  have hssk : ss.length ≤ 80000 := by have := HK.out; unfold BdK at this; have := HK2.out; omega
  have ew : IntKind.i64.wrap ((ss.length : Int) - (na : Int)) = (ss.length : Int) - (na : Int) := by rw [IntKind.wrap_i64]; omega
  by_cases hbl : ss.length - na < nb
  · have e4 : ¬ (nb : Int) ≤ (ss.length : Int) - (na : Int) := by omega
    go_upto_region 46 with fail
    go_quiet (fail)
    have hk := HK.out
    unfold BdK at hk
    go_wp2_with fail
    go_end0
    exact ⟨rfl, ⟨P, cv, xv, sv, pv, nv, cels, es, ss, bad, cu, nx, cf, nf, (HS.out.drewN _).b, by omega, by omega, by omega, by omega, by omega, by omega⟩, Fr.keep (HS.out.drewN _).k⟩
  have e4 : (nb : Int) ≤ (ss.length : Int) - (na : Int) := by omega
  obtain ⟨s1, sA, sB, hsl, hsA, hsB⟩ : ∃ s1 sA sB, ss = (s1 ++ sA) ++ sB ∧ sA.length = na ∧ sB.length = nb := by
    refine ⟨(ss.take (ss.length - nb)).take (ss.length - nb - na), (ss.take (ss.length - nb)).drop (ss.length - nb - na), ss.drop (ss.length - nb), ?_, ?_, ?_⟩
    · rw [List.take_append_drop, List.take_append_drop]
    · rw [List.length_drop, List.length_take]; omega
    · rw [List.length_drop]; omega
  have HN : Hid (1 ≤ es.length) := Hid.mk (by omega)
  have HSL := Hid.mk hsl
  have HSA := Hid.mk hsA
  have HSB := Hid.mk hsB
  have HSK := Hid.mk hssk
  clear hn ha0 hb0 hal hbl hsl hsA hsB hssk
  go_upto_region 46 with fail
  go_quiet (fail)
  clear e1 e2 e3 e4 ew j1 c1 c2 q0 q1 q2 q3 q4
  have HSN := Hid.mk (HS.out.drewN nq)
  generalize W.drewN nq = Wd at HSN ⊢
  obtain ⟨l0, ys, hly, hyl⟩ : ∃ l0 ys, es = l0 ++ ys ∧ ys.length = 1 := by
    have := HN.out
    exact ⟨es.take (es.length - 1), es.drop (es.length - 1), (List.take_append_drop _ _).symm, by rw [List.length_drop]; omega⟩
  have hll : l0.length ≤ es.length := by rw [hly]; simp
  have hl0 : l0.length ≤ 80000 := by have := HK.out; unfold BdK at this; have := HK2.out; omega
  have sD := HSN.out
  rw [hly] at sD
  have hp := popN_c sD.b (by omega) (by omega)
  rw [hyl] at hp
  have HP := Hid.mk hp
  have HSD := Hid.mk sD
  have HYL := Hid.mk hyl
  have HL0 : Hid (l0.length ≤ 80000 ∧ l0.length ≤ es.length) := Hid.mk ⟨hl0, hll⟩
  clear hp sD hyl hly hl0 hll
  go_wp2_with fail
  refine HP.out.mono ?_
  rintro e w2 ⟨xv', gL, rfl, ob, nw, fr, bb, rr, el⟩
  obtain ⟨w', hw'⟩ : ∃ w', w' = w2.alloc (.cells #[.int .i64 2, .int .i64 0, .int .i64 0, .int .i64 0, .int .i64 0, .slice (some ⟨gL, 0, none⟩) 1 1, .slice none 0 0, .slice none 0 0] 109) := ⟨_, rfl⟩
  have k9 : Keep w2 w' := by rw [hw']; exact (Keep.refl w2).alloc _
  have a9 : Arr w' w2.heap.size 109 [.int .i64 2, .int .i64 0, .int .i64 0, .int .i64 0, .int .i64 0, .slice (some ⟨gL, 0, none⟩) 1 1, .slice none 0 0, .slice none 0 0] := by rw [hw']; exact Arr.new w2 109 _
  have hyl := HYL.out
  have PD : Popd B P Wd w' gb cv xv sv pv nv cels l0 ys ss bad cu nx cf nf xv' gL := Popd.keep ⟨ob, nw, bb, by rw [hyl]; exact rr, el⟩ k9
  obtain ⟨gE, hgE⟩ : ∃ gE, gE = w2.heap.size := ⟨_, rfl⟩
  rw [← hgE] at a9
  have bx := Bx.ofPop HSD.out PD (by rw [hgE]; exact fr.size) (fun e => by have := (bb.sp gL (Or.inr rfl)).2.1; omega) a9 (fr.trans (Fr.keep k9))
  rw [HSL.out] at bx
  have hrr := PD.rw'
  rw [hyl] at hrr
  have HRE := Hid.mk hrr
  have HEE := Hid.mk PD.el
  have hsl := HSL.out
  have hsk := HSK.out
  have hl3 : (s1 ++ sA ++ sB).length ≤ 80000 := by rw [← hsl]; omega
  have HL3 := Hid.mk hl3
  have HBX := Hid.mk bx
  have HT := Hid.mk (takeStmts_c bx.b (by omega))
  rw [HSB.out] at HT
  clear k9 a9 ob nw bb rr el fr hyl PD hrr hsl hsk hl3 bx
  go_upto_region 48 with fail
  rw [← hgE, ← hw']
  clear hgE hw'
  have o2 : w'.cell? ⟨gO, 2, none⟩ = some (.int .i64 (nb : Int)) := HBX.out.o.cell 2
  go_wp2_with fail
  refine HT.out.mono ?_
  intro e1 w3 ht
  obtain ⟨sv1, ua, uc, he, bx2, rr, sl, kp⟩ := HBX.out.took ht
  rw [HSB.out] at he
  subst he
  have z7 : w3.cell? ⟨gE, 7, none⟩ = some (.slice none 0 0) := bx2.x.cell 7
  have z7f := bx2.x.frozen 7
  have HB2 := Hid.mk bx2
  have HRL := Hid.mk rr
  have HSLL := Hid.mk sl
  have HRE2 := Hid.mk ((HRE.out.step kp).weak (Q := fun q => (P q ∨ q = gL) ∨ (Value.slice ua sB.length uc).ownBlock = some q) (fun q a => Or.inl a))
  have HEE2 := Hid.mk (ELW.weak (Q := fun q => (P q ∨ q = gL) ∨ (Value.slice ua sB.length uc).ownBlock = some q) (fun q a => Or.inl a) (HEE.out.step kp))
  clear ht o2 bx2 rr sl kp
  go_upto_region 49 with fail
  clear z7 z7f
  have bx3 := HB2.out.set 7 (.slice ua nb uc)
  have kp3 := HB2.out.kp 7 (.slice ua nb uc)
  have HRL3 := Hid.mk (HRL.out.step kp3)
  have HSLL3 := Hid.mk (HSLL.out.step kp3)
  have HRE3 := Hid.mk (HRE2.out.step kp3)
  have HEE3 := Hid.mk (HEE2.out.step kp3)
  generalize w3.setCell ⟨gE, 7, none⟩ (.slice ua nb uc) = w4 at *
  have HB3 := Hid.mk bx3
  have HT2 := Hid.mk (takeStmts_c bx3.b (by have := HL3.out; simp at this; simp; omega))
  rw [HSA.out] at HT2
  clear bx3 kp3
  have o1 : w4.cell? ⟨gO, 1, none⟩ = some (.int .i64 (na : Int)) := HB3.out.o.cell 1
  go_wp2_with fail
  refine HT2.out.mono ?_
  intro e2 w5 ht2
  obtain ⟨sv2, ua2, uc2, he2, bx4, rr2, sl2, kp4⟩ := HB3.out.took ht2
  rw [HSA.out] at he2
  subst he2
  have z6 : w5.cell? ⟨gE, 6, none⟩ = some (.slice none 0 0) := bx4.x.cell 6
  have z6f := bx4.x.frozen 6
  have HB4 := Hid.mk bx4
  have HRT := Hid.mk rr2
  have HSLT := Hid.mk sl2
  have HRL4 := Hid.mk ((HRL3.out.step kp4).weak (Q := fun q => ((P q ∨ q = gL) ∨ (Value.slice ua sB.length uc).ownBlock = some q) ∨ (Value.slice ua2 sA.length uc2).ownBlock = some q) (fun q a => Or.inl a))
  have HSLL4 := Hid.mk (SLW.weak (Q := fun q => ((P q ∨ q = gL) ∨ (Value.slice ua sB.length uc).ownBlock = some q) ∨ (Value.slice ua2 sA.length uc2).ownBlock = some q) (fun q a => Or.inl a) (HSLL3.out.step kp4))
  have HRE4 := Hid.mk ((HRE3.out.step kp4).weak (Q := fun q => ((P q ∨ q = gL) ∨ (Value.slice ua sB.length uc).ownBlock = some q) ∨ (Value.slice ua2 sA.length uc2).ownBlock = some q) (fun q a => Or.inl a))
  have HEE4 := Hid.mk (ELW.weak (Q := fun q => ((P q ∨ q = gL) ∨ (Value.slice ua sB.length uc).ownBlock = some q) ∨ (Value.slice ua2 sA.length uc2).ownBlock = some q) (fun q a => Or.inl a) (HEE3.out.step kp4))
  clear ht2 o1 bx4 rr2 sl2 kp4
  go_upto_region 50 with fail
  clear z6 z6f
  have bx5 := HB4.out.set 6 (.slice ua2 na uc2)
  have kp5 := HB4.out.kp 6 (.slice ua2 na uc2)
  have rT := (HRT.out.step kp5).step (KP.of (Keep.refl _).drew)
  have lT := (HSLT.out.step kp5).step (KP.of (Keep.refl _).drew)
  have rL := (HRL4.out.step kp5).step (KP.of (Keep.refl _).drew)
  have lL := (HSLL4.out.step kp5).step (KP.of (Keep.refl _).drew)
  have rE := (HRE4.out.step kp5).step (KP.of (Keep.refl _).drew)
  have lE := (HEE4.out.step kp5).step (KP.of (Keep.refl _).drew)
  have hsl := HSL.out
  have hsA := HSA.out
  have hsB := HSB.out
  have hsk := HSK.out
  have hl0 := HL0.out
  have hs1 : s1.length ≤ ss.length := by rw [hsl]; simp
  obtain ⟨xa9, xc9, hx9⟩ := OwnS.len bx5.b.os
  have bxD := bx5.drew
  rw [hx9] at bxD
  refine tq50_c (P := (fun q => (((P q ∨ q = gL) ∨ (Value.slice ua sB.length uc).ownBlock = some q) ∨ (Value.slice ua2 sA.length uc2).ownBlock = some q))) (gO := gO) (gE := gE) (A := 0) (Bf := 0) (Cf := 0) (D := 0) (Kf := 11) (focS (P := (fun q => (((P q ∨ q = gL) ∨ (Value.slice ua sB.length uc).ownBlock = some q) ∨ (Value.slice ua2 sA.length uc2).ownBlock = some q))) (cv := cv) (xv := xv') (pv := pv) (nv := nv) (cels := cels) (es := l0) (bad := bad) (cu := cu) (nx := nx) (cf := cf) (nf := nf) bxD.b.lo) rfl bxD.b.ar bxD.b.r (by omega) rfl rfl (1 + (sA.map nsz).sum + (sB.map nsz).sum) ⟨⟨2, 0, 0, 0, 0⟩, .slice (some ⟨gL, 0, none⟩) 1 1, .slice ua2 na uc2, .slice ua nb uc, mkE ys, mkS sA, mkS sB, ys.map neC, sA.map nsC, sB.map nsC⟩ bxD.x (fun e => bxD.xg gb (Or.inl rfl) e.symm) (fun e => bxD.xg gE (Or.inr (Or.inr (Or.inr (Or.inl e)))) rfl) (⟨⟨by simp [I64], by simp [I64], by simp [I64], by simp [I64], by simp [I64]⟩, rE, lE, by rw [hsA] at rT ⊢; exact rT, lT, by rw [hsB] at rL ⊢; exact rL, lL⟩) (by simp [nsz, mkS_size]) ?_
  rintro vs2 w9 ⟨g, c, x, hnx, L⟩
  have F : BSt B gb (k + 1) w9 ∧ Fr (fun q => B ≤ q) w w9 := by
    obtain ⟨k1, k2, k3, k4, k5, k6⟩ := HK.out
    rw [hsl, List.map_append, List.map_append, List.sum_append, List.sum_append] at k6
    exact bxD.finS k1 (by omega) (by omega) k4 k5 (by omega) hnx L
  generalize h9 : lay _ _ = a9
  have hdf : a9.defers = [] := by rw [← h9, lay_defers]
  clear h9
  go_wp2_with fail
  exact bodyPost_end (results_none rfl a9.tmps Try.prog w9) hdf ⟨rfl, F⟩
set_option maxRecDepth 8000 in
set_option maxHeartbeats 4000000 in
theorem step_13 {B : Nat} {P : Nat → Prop} {w : World} {gb : Nat} {cv xv sv pv nv : Value} {cels : List Cel} {es : List NE} {ss : List NS} {bad : NE} {cu nx : List (Int × Nat)} {cf : Bool} {nf : Int} {k : Nat} {A Bf Cf D : Int} (h : BB B P w gb cv xv sv pv nv cels es ss bad cu nx cf nf) (hk : BdK k cels es ss cu nx) (hk2 : k ≤ 80000) (hA : I64 A) (hB : I64 Bf) (hC : I64 Cf) (hD : I64 D) : Calls Try.prog 22 #[.pointer (some ⟨gb, 0, none⟩), .agg #[.int .i64 13, .int .i64 A, .int .i64 Bf, .int .i64 Cf, .int .i64 D]] w (StepO B gb k w) := by
  obtain ⟨va, vc, hxv⟩ := OwnS.len h.oe
  obtain ⟨sa, sc, hsv⟩ := OwnS.len h.os
  obtain ⟨W, hW⟩ : ∃ W, W = w.alloc (.cells #[.int .i64 13, .int .i64 A, .int .i64 Bf, .int .i64 Cf, .int .i64 D] 81) := ⟨_, rfl⟩
  have sI := SIn.of h (.int .i64 13) (.int .i64 A) (.int .i64 Bf) (.int .i64 Cf) (.int .i64 D)
  rw [← hW] at sI
  generalize hgO : w.heap.size = gO at sI
  have c1 : W.cell? ⟨gb, 1, none⟩ = some (.slice va es.length vc) := by rw [← hxv]; exact sI.b.ar.cell 1
  have c2 : W.cell? ⟨gb, 2, none⟩ = some (.slice sa ss.length sc) := by rw [← hsv]; exact sI.b.ar.cell 2
  have q0 : W.cell? ⟨gO, 0, none⟩ = some (.int .i64 13) := sI.o.cell 0
  have q1 : W.cell? ⟨gO, 1, none⟩ = some (.int .i64 A) := sI.o.cell 1
  have q2 : W.cell? ⟨gO, 2, none⟩ = some (.int .i64 Bf) := sI.o.cell 2
  have q3 : W.cell? ⟨gO, 3, none⟩ = some (.int .i64 Cf) := sI.o.cell 3
  have q4 : W.cell? ⟨gO, 4, none⟩ = some (.int .i64 D) := sI.o.cell 4
  have HS := Hid.mk sI
  have HV := Hid.mk hxv
  have HVS := Hid.mk hsv
  have HK := Hid.mk hk
  have HK2 := Hid.mk hk2
  have HI : Hid (I64 A ∧ I64 Bf ∧ I64 Cf ∧ I64 D) := Hid.mk ⟨hA, hB, hC, hD⟩
  clear h hk hk2 hxv hsv sI hA hB hC hD
  go_enter Try.func22, Try.ntmps22
  go_upto_region 1 with fail
  rw [← hW]
  clear hW hgO
  by_cases d4 : A = 4
  · subst d4
    by_cases hn : es.length < 1
    · have j1 : ¬ ((1 : Int) ≤ (es.length : Int)) := by omega
      go_wp2_with fail
      go_end0
      have hk := HK.out
      unfold BdK at hk
      exact ⟨rfl, ⟨P, cv, xv, sv, pv, nv, cels, es, ss, bad, cu, nx, cf, nf, HS.out.b, by omega, by omega, by omega, by omega, by omega, by omega⟩, Fr.keep HS.out.k⟩
    · have j1 : ((1 : Int) ≤ (es.length : Int)) := by omega
      have HN : Hid (1 ≤ es.length) := Hid.mk (by omega)
      clear hn
      go_upto_region 59 with fail
      clear c1 c2 q0 q1 q2 q3 q4
      obtain ⟨l0, ys, hly, hyl⟩ : ∃ l0 ys, es = l0 ++ ys ∧ ys.length = 1 := by
        have := HN.out
        exact ⟨es.take (es.length - 1), es.drop (es.length - 1), (List.take_append_drop _ _).symm, by rw [List.length_drop]; omega⟩
      have hll : l0.length ≤ es.length := by rw [hly]; simp
      have sD := HS.out.drew
      rw [HVS.out] at sD
      refine tq59_c (fun hd1 P1 C1 => ∃ xv1, xv1.ownBlock = xv.ownBlock ∧ hd1 = (fun v => bbL cv xv1 v bad pv nv cf nf) ∧ C1 = (fun w v l => BBr B P1 w gb cv xv1 v pv nv cels l0 l bad cu nx nf)) (P := P) (gO := gO) (A := 4) (Bf := Bf) (Cf := Cf) (D := D) (Kf := 13) (focS (P := P) (cv := cv) (xv := xv) (pv := pv) (nv := nv) (cels := cels) (es := es) (bad := bad) (cu := cu) (nx := nx) (cf := cf) (nf := nf) HS.out.b.lo) rfl sD.b.ar sD.b.r (by have := HK.out; unfold BdK at this; have := HK2.out; omega) rfl rfl rfl HS.out.drew.o HS.out.ne (fun e => OwnS.neA (by rw [← HVS.out]; exact HS.out.drew.b.os) HS.out.drew.o (by decide) e) (by simp [I64]) HI.out.2.1 ?_ ?_
      · intro w' hC hAr
        have hb := BBr.b (cf := cf) hC hAr
        rw [hly] at hb
        have hp := popN_c hb (by have := HK.out; unfold BdK at this; have := HK2.out; omega) (by omega)
        rw [hyl] at hp
        refine hp.mono ?_
        rintro e w2 ⟨xv', gL, rfl, ob, nw, fr, bb, rr, el⟩
        exact ⟨_, _, fun q => P q ∨ q = gL, _, rfl, focS (xv := xv') bb.lo, ⟨xv', ob, rfl, rfl⟩, ⟨_, _, _, _, _, rfl, rr, el⟩, fr, bb.ar, bb.r⟩
      · rintro vs w' ⟨hd1, P1, C1, g, c, x, ⟨xv1, ob, rfl, rfl⟩, hx, L⟩
        have F : BSt B gb (k + 1) w' ∧ Fr (fun q => B ≤ q) w w' := by
          obtain ⟨k1, k2, k3, k4, k5, k6⟩ := HK.out
          refine ⟨⟨P1, cv, xv1, _, pv, nv, cels, l0, _, bad, cu, nx, cf, nf, BBr.b (cf := cf) L.c L.ar, by omega, by omega, by simp; omega, by omega, by omega, by rw [List.map_append, List.sum_append]; simp; omega⟩, sD.fr L.fr (fun q a => a.elim (fun e => Or.inl e) (fun a => Or.inr (Or.inr (Or.inr (Or.inl a)))))⟩
        simp only [Lmx, tq59T, List.filterMap_cons, List.filterMap_nil, ment, Option.map_some, Option.map_none, mval, lay, List.foldl_cons, List.foldl_nil]
        simp only [put_litx, List.set_cons_succ, List.set_cons_zero]
        go_wp2_with fail
        go_end0
        exact ⟨rfl, F⟩
  · by_cases d5 : A = 5
    · clear d4
      subst d5
      by_cases hn : es.length < 3
      · have j1 : ¬ ((3 : Int) ≤ (es.length : Int)) := by omega
        go_wp2_with fail
        go_end0
        have hk := HK.out
        unfold BdK at hk
        exact ⟨rfl, ⟨P, cv, xv, sv, pv, nv, cels, es, ss, bad, cu, nx, cf, nf, HS.out.b, by omega, by omega, by omega, by omega, by omega, by omega⟩, Fr.keep HS.out.k⟩
      · have j1 : ((3 : Int) ≤ (es.length : Int)) := by omega
        have HN : Hid (3 ≤ es.length) := Hid.mk (by omega)
        clear hn
        go_upto_region 61 with fail
        clear c1 c2 q0 q1 q2 q3 q4
        obtain ⟨l0, ys, hly, hyl⟩ : ∃ l0 ys, es = l0 ++ ys ∧ ys.length = 3 := by
          have := HN.out
          exact ⟨es.take (es.length - 3), es.drop (es.length - 3), (List.take_append_drop _ _).symm, by rw [List.length_drop]; omega⟩
        have hll : l0.length ≤ es.length := by rw [hly]; simp
        have sD := HS.out.drew
        rw [HVS.out] at sD
        refine tq61_c (fun hd1 P1 C1 => ∃ xv1, xv1.ownBlock = xv.ownBlock ∧ hd1 = (fun v => bbL cv xv1 v bad pv nv cf nf) ∧ C1 = (fun w v l => BBr B P1 w gb cv xv1 v pv nv cels l0 l bad cu nx nf)) (P := P) (gO := gO) (A := 5) (Bf := Bf) (Cf := Cf) (D := D) (Kf := 13) (focS (P := P) (cv := cv) (xv := xv) (pv := pv) (nv := nv) (cels := cels) (es := es) (bad := bad) (cu := cu) (nx := nx) (cf := cf) (nf := nf) HS.out.b.lo) rfl sD.b.ar sD.b.r (by have := HK.out; unfold BdK at this; have := HK2.out; omega) rfl rfl rfl HS.out.drew.o HS.out.ne (fun e => OwnS.neA (by rw [← HVS.out]; exact HS.out.drew.b.os) HS.out.drew.o (by decide) e) (by simp [I64]) HI.out.2.1 ?_ ?_
        · intro w' hC hAr
          have hb := BBr.b (cf := cf) hC hAr
          rw [hly] at hb
          have hp := popN_c hb (by have := HK.out; unfold BdK at this; have := HK2.out; omega) (by omega)
          rw [hyl] at hp
          refine hp.mono ?_
          rintro e w2 ⟨xv', gL, rfl, ob, nw, fr, bb, rr, el⟩
          exact ⟨_, _, fun q => P q ∨ q = gL, _, rfl, focS (xv := xv') bb.lo, ⟨xv', ob, rfl, rfl⟩, ⟨_, _, _, _, _, rfl, rr, el⟩, fr, bb.ar, bb.r⟩
        · rintro vs w' ⟨hd1, P1, C1, g, c, x, ⟨xv1, ob, rfl, rfl⟩, hx, L⟩
          have F : BSt B gb (k + 1) w' ∧ Fr (fun q => B ≤ q) w w' := by
            obtain ⟨k1, k2, k3, k4, k5, k6⟩ := HK.out
            refine ⟨⟨P1, cv, xv1, _, pv, nv, cels, l0, _, bad, cu, nx, cf, nf, BBr.b (cf := cf) L.c L.ar, by omega, by omega, by simp; omega, by omega, by omega, by rw [List.map_append, List.sum_append]; simp; omega⟩, sD.fr L.fr (fun q a => a.elim (fun e => Or.inl e) (fun a => Or.inr (Or.inr (Or.inr (Or.inl a)))))⟩
          generalize h9 : lay _ _ = a9
          have hdf : a9.defers = [] := by rw [← h9, lay_defers]
          clear h9
          go_wp2_with fail
          exact bodyPost_end (results_none rfl a9.tmps Try.prog w') hdf ⟨rfl, F⟩
    · by_cases d6 : A = 6
      · clear d4 d5
        subst d6
        by_cases hn : es.length < 3
        · have j1 : ¬ ((3 : Int) ≤ (es.length : Int)) := by omega
          go_wp2_with fail
          go_end0
          have hk := HK.out
          unfold BdK at hk
          exact ⟨rfl, ⟨P, cv, xv, sv, pv, nv, cels, es, ss, bad, cu, nx, cf, nf, HS.out.b, by omega, by omega, by omega, by omega, by omega, by omega⟩, Fr.keep HS.out.k⟩
        · have j1 : ((3 : Int) ≤ (es.length : Int)) := by omega
          have HN : Hid (3 ≤ es.length) := Hid.mk (by omega)
          clear hn
          go_upto_region 61 with fail
          clear c1 c2 q0 q1 q2 q3 q4
          obtain ⟨l0, ys, hly, hyl⟩ : ∃ l0 ys, es = l0 ++ ys ∧ ys.length = 3 := by
            have := HN.out
            exact ⟨es.take (es.length - 3), es.drop (es.length - 3), (List.take_append_drop _ _).symm, by rw [List.length_drop]; omega⟩
          have hll : l0.length ≤ es.length := by rw [hly]; simp
          have sD := HS.out.drew
          rw [HVS.out] at sD
          refine tq61_c (fun hd1 P1 C1 => ∃ xv1, xv1.ownBlock = xv.ownBlock ∧ hd1 = (fun v => bbL cv xv1 v bad pv nv cf nf) ∧ C1 = (fun w v l => BBr B P1 w gb cv xv1 v pv nv cels l0 l bad cu nx nf)) (P := P) (gO := gO) (A := 6) (Bf := Bf) (Cf := Cf) (D := D) (Kf := 13) (focS (P := P) (cv := cv) (xv := xv) (pv := pv) (nv := nv) (cels := cels) (es := es) (bad := bad) (cu := cu) (nx := nx) (cf := cf) (nf := nf) HS.out.b.lo) rfl sD.b.ar sD.b.r (by have := HK.out; unfold BdK at this; have := HK2.out; omega) rfl rfl rfl HS.out.drew.o HS.out.ne (fun e => OwnS.neA (by rw [← HVS.out]; exact HS.out.drew.b.os) HS.out.drew.o (by decide) e) (by simp [I64]) HI.out.2.1 ?_ ?_
          · intro w' hC hAr
            have hb := BBr.b (cf := cf) hC hAr
            rw [hly] at hb
            have hp := popN_c hb (by have := HK.out; unfold BdK at this; have := HK2.out; omega) (by omega)
            rw [hyl] at hp
            refine hp.mono ?_
            rintro e w2 ⟨xv', gL, rfl, ob, nw, fr, bb, rr, el⟩
            exact ⟨_, _, fun q => P q ∨ q = gL, _, rfl, focS (xv := xv') bb.lo, ⟨xv', ob, rfl, rfl⟩, ⟨_, _, _, _, _, rfl, rr, el⟩, fr, bb.ar, bb.r⟩
          · rintro vs w' ⟨hd1, P1, C1, g, c, x, ⟨xv1, ob, rfl, rfl⟩, hx, L⟩
            have F : BSt B gb (k + 1) w' ∧ Fr (fun q => B ≤ q) w w' := by
              obtain ⟨k1, k2, k3, k4, k5, k6⟩ := HK.out
              refine ⟨⟨P1, cv, xv1, _, pv, nv, cels, l0, _, bad, cu, nx, cf, nf, BBr.b (cf := cf) L.c L.ar, by omega, by omega, by simp; omega, by omega, by omega, by rw [List.map_append, List.sum_append]; simp; omega⟩, sD.fr L.fr (fun q a => a.elim (fun e => Or.inl e) (fun a => Or.inr (Or.inr (Or.inr (Or.inl a)))))⟩
            generalize h9 : lay _ _ = a9
            have hdf : a9.defers = [] := by rw [← h9, lay_defers]
            clear h9
            go_wp2_with fail
            exact bodyPost_end (results_none rfl a9.tmps Try.prog w') hdf ⟨rfl, F⟩
      · have b4 : (A == 4) = false := by simpa using d4
        have b5 : (A == 5) = false := by simpa using d5
        have b6 : (A == 6) = false := by simpa using d6
        clear d4 d5 d6
        go_wp2_with fail
        go_end0
        have hk := HK.out
        unfold BdK at hk
        exact ⟨rfl, ⟨P, cv, xv, sv, pv, nv, cels, es, ss, bad, cu, nx, cf, nf, HS.out.b, by omega, by omega, by omega, by omega, by omega, by omega⟩, Fr.keep HS.out.k⟩
end Go.Proofs.Qxb6500772a
