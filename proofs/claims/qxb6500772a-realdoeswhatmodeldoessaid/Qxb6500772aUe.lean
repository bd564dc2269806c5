/- interpm: Eval, Ite. -/
import Derived.Test.Qxb6500772aUb
import Derived.Test.Qxb6500772aTe
import Derived.Test.Qxb6500772aCj
import Derived.Deep.RegionHeld3
namespace Go.Proofs.Qxb6500772a
open Go.RowKit Go.Qm
set_option linter.unusedVariables false
set_option linter.unusedSimpArgs false
attribute [local go_sem ↓] Go.wp_at_zero Go.wp_at_succ
set_option maxRecDepth 6000 in
set_option maxHeartbeats 8000000 in
theorem ev_k6 {P : Nat → Prop} {ws : List Int} {f : EF} {t : EL} (IH : ∀ x ∈ t.toL, EvC P ws x.1 x.2) (hk : f.k = 6) : EvC P ws f t := by
  intro w v rows sv S hf hr he hwt hwo hsv hS
  have E : t.ws = [1, f.w, f.w] := by
    obtain ⟨-, h⟩ := hwo
    rw [hk] at h
    rcases h with ⟨a, -⟩ | ⟨a, -⟩ | ⟨a, -⟩ | ⟨a, -⟩ | ⟨a, -⟩ | ⟨a, -⟩ | ⟨-, h⟩
    · exact absurd a (by decide)
    · exact absurd a (by decide)
    · exact absurd a (by decide)
    · exact absurd a (by decide)
    · exact absurd a (by decide)
    · exact absurd a (by decide)
    · exact h
  have hrl : rows.length = 3 := by rw [he.len]; have := ws_len t; rw [E] at this; simpa using this.symm
  obtain ⟨va, vc, hvv, vv1, vv2⟩ := hr.form
  rw [hrl] at hvv vv1
  subst hvv
  have hr' := hr
  obtain ⟨b, o, hva, -, -, -⟩ := hr'.cell (i := 0) (by omega)
  subst hva
  have hl0 : 0 < t.toL.length := by have := ws_len t; rw [E] at this; simp [EL.len] at this; omega
  have hlr0 : 0 < rows.length := by rw [he.len]; exact hl0
  obtain ⟨kvv0, kr0, y01, y02, y03, y04⟩ := he.get 0 hl0 hlr0
  obtain ⟨b0, o0, ha0, hp0, hb0, hc0⟩ := hr'.cell hlr0
  have KC0 : ∀ V, Keep w V → Calls Try.prog 36 #[efA t.toL[0].1 kvv0, .agg #[sv, .bool S.fault]] V fun e w' => e = .returned (.tuple #[.int .u64 ((kv (evL t S) 0 : Nat) : Int), .bool (kf (evL t S) 0)]) ∧ Keep V w' := fun V kV => by
    have h9 := IH t.toL[0] (List.getElem_mem hl0) V kvv0 kr0 sv S y02 (y03.step (KP.of kV)) (y04.step (KP.of kV)) (wtL_mm hwt _ (List.getElem_mem hl0)).1 (wtL_mm hwt _ (List.getElem_mem hl0)).2 (hsv.keep kV) hS
    rw [← evL_get t S 0 hl0] at h9
    exact h9
  have hlt0 := evL_lt hS hwt 0 hl0
  have hwi0 := ws_get t 0 hl0
  have hl1 : 1 < t.toL.length := by have := ws_len t; rw [E] at this; simp [EL.len] at this; omega
  have hlr1 : 1 < rows.length := by rw [he.len]; exact hl1
  obtain ⟨kvv1, kr1, y11, y12, y13, y14⟩ := he.get 1 hl1 hlr1
  obtain ⟨b1, o1, ha1, hp1, hb1, hc1⟩ := hr'.cell hlr1
  have KC1 : ∀ V, Keep w V → Calls Try.prog 36 #[efA t.toL[1].1 kvv1, .agg #[sv, .bool S.fault]] V fun e w' => e = .returned (.tuple #[.int .u64 ((kv (evL t S) 1 : Nat) : Int), .bool (kf (evL t S) 1)]) ∧ Keep V w' := fun V kV => by
    have h9 := IH t.toL[1] (List.getElem_mem hl1) V kvv1 kr1 sv S y12 (y13.step (KP.of kV)) (y14.step (KP.of kV)) (wtL_mm hwt _ (List.getElem_mem hl1)).1 (wtL_mm hwt _ (List.getElem_mem hl1)).2 (hsv.keep kV) hS
    rw [← evL_get t S 1 hl1] at h9
    exact h9
  have hlt1 := evL_lt hS hwt 1 hl1
  have hwi1 := ws_get t 1 hl1
  have hl2 : 2 < t.toL.length := by have := ws_len t; rw [E] at this; simp [EL.len] at this; omega
  have hlr2 : 2 < rows.length := by rw [he.len]; exact hl2
  obtain ⟨kvv2, kr2, y21, y22, y23, y24⟩ := he.get 2 hl2 hlr2
  obtain ⟨b2, o2, ha2, hp2, hb2, hc2⟩ := hr'.cell hlr2
  have KC2 : ∀ V, Keep w V → Calls Try.prog 36 #[efA t.toL[2].1 kvv2, .agg #[sv, .bool S.fault]] V fun e w' => e = .returned (.tuple #[.int .u64 ((kv (evL t S) 2 : Nat) : Int), .bool (kf (evL t S) 2)]) ∧ Keep V w' := fun V kV => by
    have h9 := IH t.toL[2] (List.getElem_mem hl2) V kvv2 kr2 sv S y22 (y23.step (KP.of kV)) (y24.step (KP.of kV)) (wtL_mm hwt _ (List.getElem_mem hl2)).1 (wtL_mm hwt _ (List.getElem_mem hl2)).2 (hsv.keep kV) hS
    rw [← evL_get t S 2 hl2] at h9
    exact h9
  have hlt2 := evL_lt hS hwt 2 hl2
  have hwi2 := ws_get t 2 hl2
  generalize t.toL[0] = xx0 at *
  obtain ⟨x0, xk0⟩ := xx0
  simp only at y01 y02 y03 y04 KC0 hwi0
  obtain ⟨ka0, kc0, hkv0, -, -⟩ := y03.form
  generalize kr0.length = kn0 at hkv0
  subst hkv0
  obtain ⟨rfl, rfl⟩ : b = b0 ∧ o = o0 := by simpa using ha0
  have HC0 : Hid (∀ j < 7, w.cell? ⟨b, o + 0 * 7 + j, none⟩ = (efC x0 (.slice ka0 kn0 kc0))[j]?) := Hid.mk (fun j hj => by rw [hc0 j hj, y01])
  have kcell0 : ∀ Z, Keep w Z → ∀ j < 7, Z.cell? ⟨b, o + 0 * 7 + j, none⟩ = (efC x0 (.slice ka0 kn0 kc0))[j]? := fun Z kz j hj => by
    have h8 := HC0.out j hj
    have h7 : j < (efC x0 (.slice ka0 kn0 kc0)).length := by simpa [efC] using hj
    rw [List.getElem?_eq_getElem h7] at h8 ⊢
    exact kz.cell h8
  have HKC0 := Hid.mk KC0
  have HKCL0 := Hid.mk kcell0
  generalize t.toL[1] = xx1 at *
  obtain ⟨x1, xk1⟩ := xx1
  simp only at y11 y12 y13 y14 KC1 hwi1
  obtain ⟨ka1, kc1, hkv1, -, -⟩ := y13.form
  generalize kr1.length = kn1 at hkv1
  subst hkv1
  obtain ⟨rfl, rfl⟩ : b = b1 ∧ o = o1 := by simpa using ha1
  have HC1 : Hid (∀ j < 7, w.cell? ⟨b, o + 1 * 7 + j, none⟩ = (efC x1 (.slice ka1 kn1 kc1))[j]?) := Hid.mk (fun j hj => by rw [hc1 j hj, y11])
  have kcell1 : ∀ Z, Keep w Z → ∀ j < 7, Z.cell? ⟨b, o + 1 * 7 + j, none⟩ = (efC x1 (.slice ka1 kn1 kc1))[j]? := fun Z kz j hj => by
    have h8 := HC1.out j hj
    have h7 : j < (efC x1 (.slice ka1 kn1 kc1)).length := by simpa [efC] using hj
    rw [List.getElem?_eq_getElem h7] at h8 ⊢
    exact kz.cell h8
  have HKC1 := Hid.mk KC1
  have HKCL1 := Hid.mk kcell1
  generalize t.toL[2] = xx2 at *
  obtain ⟨x2, xk2⟩ := xx2
  simp only at y21 y22 y23 y24 KC2 hwi2
  obtain ⟨ka2, kc2, hkv2, -, -⟩ := y23.form
  generalize kr2.length = kn2 at hkv2
  subst hkv2
  obtain ⟨rfl, rfl⟩ : b = b2 ∧ o = o2 := by simpa using ha2
  have HC2 : Hid (∀ j < 7, w.cell? ⟨b, o + 2 * 7 + j, none⟩ = (efC x2 (.slice ka2 kn2 kc2))[j]?) := Hid.mk (fun j hj => by rw [hc2 j hj, y21])
  have kcell2 : ∀ Z, Keep w Z → ∀ j < 7, Z.cell? ⟨b, o + 2 * 7 + j, none⟩ = (efC x2 (.slice ka2 kn2 kc2))[j]? := fun Z kz j hj => by
    have h8 := HC2.out j hj
    have h7 : j < (efC x2 (.slice ka2 kn2 kc2)).length := by simpa [efC] using hj
    rw [List.getElem?_eq_getElem h7] at h8 ⊢
    exact kz.cell h8
  have HKC2 := Hid.mk KC2
  have HKCL2 := Hid.mk kcell2
  obtain ⟨sa, sc, hsvv, sv1, sv2⟩ := hsv.form
  subst hsvv
  unfold maxLen at vv2 sv2
  obtain ⟨W, hW⟩ : ∃ W, W = (w.alloc (.cells #[.int .i64 f.k, .int .i64 f.w, .int .i64 f.o, .int .u64 (f.v : Nat), .int .i64 f.c, .int .i64 f.l, .slice (some ⟨b, o, none⟩) 3 vc] 31)).alloc (.cells #[.slice sa S.cells.length sc, .bool S.fault] 37) := ⟨_, rfl⟩
  have kW : Keep w W := by rw [hW]; exact ((Keep.refl w).alloc _).alloc _
  have aE : Arr W w.heap.size 31 (EfC f (.slice (some ⟨b, o, none⟩) 3 vc)) := by rw [hW]; exact (Arr.new w 31 _).keep ((Keep.refl _).alloc _)
  have aS : Arr W (w.heap.size + 1) 37 [.slice sa S.cells.length sc, .bool S.fault] := by
    rw [hW]
    have := Arr.new (w.alloc (.cells #[.int .i64 f.k, .int .i64 f.w, .int .i64 f.o, .int .u64 (f.v : Nat), .int .i64 f.c, .int .i64 f.l, .slice (some ⟨b, o, none⟩) 3 vc] 31)) 37 [.slice sa S.cells.length sc, .bool S.fault]
    have e : (w.alloc (.cells #[.int .i64 f.k, .int .i64 f.w, .int .i64 f.o, .int .u64 (f.v : Nat), .int .i64 f.c, .int .i64 f.l, .slice (some ⟨b, o, none⟩) 3 vc] 31)).heap.size = w.heap.size + 1 := by simp
    rw [e] at this
    exact this
  have HKW := Hid.mk kW
  have HAE := Hid.mk aE
  have HAS := Hid.mk aS
  have HSV := Hid.mk hsv
  obtain ⟨e0, e1, e2, e3, e4, e5, e6⟩ := efC_cells aE
  have s0 : W.cell? ⟨w.heap.size + 1, 0, none⟩ = some (.slice sa S.cells.length sc) := aS.cell 0
  have s1 : W.cell? ⟨w.heap.size + 1, 1, none⟩ = some (.bool S.fault) := aS.cell 1
  simp only [efA] at HKC0 HKC1 HKC2 ⊢
  have HR : Hid (evOne f (evL t S) t.ws S = ((if kv (evL t S) 0 = 1 then kv (evL t S) 1 else kv (evL t S) 2), kf (evL t S) 0 || kf (evL t S) 1 || kf (evL t S) 2)) := Hid.mk (by simp [evOne, hk])
  generalize evOne f (evL t S) t.ws S = res at *
  obtain ⟨res1, res2⟩ := res
  generalize kv (evL t S) 0 = n0 at *
  generalize kf (evL t S) 0 = f0 at *
  generalize kv (evL t S) 1 = n1 at *
  generalize kf (evL t S) 1 = f1 at *
  generalize kv (evL t S) 2 = n2 at *
  generalize kf (evL t S) 2 = f2 at *
  rw [hk] at e0
  clear hr hr' he hwt hwo hsv kW aE aS IH hk hlt0 hwi0 hlt1 hwi1 hlt2 hwi2 hf hrl E hS
  clear y01 y02 y03 y04 KC0 kcell0 hc0 HC0 ha0 hp0 hb0 hl0 hlr0 y11 y12 y13 y14 KC1 kcell1 hc1 HC1 ha1 hp1 hb1 hl1 hlr1 y21 y22 y23 y24 KC2 kcell2 hc2 HC2 ha2 hp2 hb2 hl2 hlr2
  go_enter Try.func36, Try.ntmps36
  go_upto_region 1 with fail
  rw [← hW]
  generalize w.heap.size + 1 = gS at *
  generalize w.heap.size = gE at *
  clear hW
  have HSS0 : Hid (∀ Z, Keep W Z → Z.cell? ⟨gE, 6, none⟩ = some (.slice (some ⟨b, o, none⟩) 3 vc) ∧ Z.cell? ⟨b, o, none⟩ = some (.int .i64 x0.k) ∧ Z.cell? ⟨b, o + 1, none⟩ = some (.int .i64 x0.w) ∧ Z.cell? ⟨b, o + 2, none⟩ = some (.int .i64 x0.o) ∧ Z.cell? ⟨b, o + 3, none⟩ = some (.int .u64 (x0.v : Nat)) ∧ Z.cell? ⟨b, o + 4, none⟩ = some (.int .i64 x0.c) ∧ Z.cell? ⟨b, o + 5, none⟩ = some (.int .i64 x0.l) ∧ Z.cell? ⟨b, o + 6, none⟩ = some (.slice ka0 kn0 kc0) ∧ Z.cell? ⟨gS, 0, none⟩ = some (.slice sa S.cells.length sc) ∧ Z.cell? ⟨gS, 1, none⟩ = some (.bool S.fault)) := Hid.mk (fun Z kz => by
    obtain ⟨e0, e1, e2, e3, e4, e5, e6⟩ := efC_cells (HAE.out.keep kz)
    have s0 : Z.cell? ⟨gS, 0, none⟩ = some (.slice sa S.cells.length sc) := (HAS.out.keep kz).cell 0
    have s1 : Z.cell? ⟨gS, 1, none⟩ = some (.bool S.fault) := (HAS.out.keep kz).cell 1
    have g := HKCL0.out Z (HKW.out.trans kz)
    have g0 := g 0 (by decide)
    have g1 := g 1 (by decide)
    have g2 := g 2 (by decide)
    have g3 := g 3 (by decide)
    have g4 := g 4 (by decide)
    have g5 := g 5 (by decide)
    have g6 := g 6 (by decide)
    simp only [efC, List.getElem?_cons_zero, List.getElem?_cons_succ, Nat.zero_mul, Nat.one_mul, Nat.reduceMul, Nat.add_zero] at g0 g1 g2 g3 g4 g5 g6
    exact ⟨e6, g0, g1, g2, g3, g4, g5, g6, s0, s1⟩)
  have HSS1 : Hid (∀ Z, Keep W Z → Z.cell? ⟨gE, 6, none⟩ = some (.slice (some ⟨b, o, none⟩) 3 vc) ∧ Z.cell? ⟨b, o + 7, none⟩ = some (.int .i64 x1.k) ∧ Z.cell? ⟨b, o + 7 + 1, none⟩ = some (.int .i64 x1.w) ∧ Z.cell? ⟨b, o + 7 + 2, none⟩ = some (.int .i64 x1.o) ∧ Z.cell? ⟨b, o + 7 + 3, none⟩ = some (.int .u64 (x1.v : Nat)) ∧ Z.cell? ⟨b, o + 7 + 4, none⟩ = some (.int .i64 x1.c) ∧ Z.cell? ⟨b, o + 7 + 5, none⟩ = some (.int .i64 x1.l) ∧ Z.cell? ⟨b, o + 7 + 6, none⟩ = some (.slice ka1 kn1 kc1) ∧ Z.cell? ⟨gS, 0, none⟩ = some (.slice sa S.cells.length sc) ∧ Z.cell? ⟨gS, 1, none⟩ = some (.bool S.fault)) := Hid.mk (fun Z kz => by
    obtain ⟨e0, e1, e2, e3, e4, e5, e6⟩ := efC_cells (HAE.out.keep kz)
    have s0 : Z.cell? ⟨gS, 0, none⟩ = some (.slice sa S.cells.length sc) := (HAS.out.keep kz).cell 0
    have s1 : Z.cell? ⟨gS, 1, none⟩ = some (.bool S.fault) := (HAS.out.keep kz).cell 1
    have g := HKCL1.out Z (HKW.out.trans kz)
    have g0 := g 0 (by decide)
    have g1 := g 1 (by decide)
    have g2 := g 2 (by decide)
    have g3 := g 3 (by decide)
    have g4 := g 4 (by decide)
    have g5 := g 5 (by decide)
    have g6 := g 6 (by decide)
    simp only [efC, List.getElem?_cons_zero, List.getElem?_cons_succ, Nat.zero_mul, Nat.one_mul, Nat.reduceMul, Nat.add_zero] at g0 g1 g2 g3 g4 g5 g6
    exact ⟨e6, g0, g1, g2, g3, g4, g5, g6, s0, s1⟩)
  have HSS2 : Hid (∀ Z, Keep W Z → Z.cell? ⟨gE, 6, none⟩ = some (.slice (some ⟨b, o, none⟩) 3 vc) ∧ Z.cell? ⟨b, o + 14, none⟩ = some (.int .i64 x2.k) ∧ Z.cell? ⟨b, o + 14 + 1, none⟩ = some (.int .i64 x2.w) ∧ Z.cell? ⟨b, o + 14 + 2, none⟩ = some (.int .i64 x2.o) ∧ Z.cell? ⟨b, o + 14 + 3, none⟩ = some (.int .u64 (x2.v : Nat)) ∧ Z.cell? ⟨b, o + 14 + 4, none⟩ = some (.int .i64 x2.c) ∧ Z.cell? ⟨b, o + 14 + 5, none⟩ = some (.int .i64 x2.l) ∧ Z.cell? ⟨b, o + 14 + 6, none⟩ = some (.slice ka2 kn2 kc2) ∧ Z.cell? ⟨gS, 0, none⟩ = some (.slice sa S.cells.length sc) ∧ Z.cell? ⟨gS, 1, none⟩ = some (.bool S.fault)) := Hid.mk (fun Z kz => by
    obtain ⟨e0, e1, e2, e3, e4, e5, e6⟩ := efC_cells (HAE.out.keep kz)
    have s0 : Z.cell? ⟨gS, 0, none⟩ = some (.slice sa S.cells.length sc) := (HAS.out.keep kz).cell 0
    have s1 : Z.cell? ⟨gS, 1, none⟩ = some (.bool S.fault) := (HAS.out.keep kz).cell 1
    have g := HKCL2.out Z (HKW.out.trans kz)
    have g0 := g 0 (by decide)
    have g1 := g 1 (by decide)
    have g2 := g 2 (by decide)
    have g3 := g 3 (by decide)
    have g4 := g 4 (by decide)
    have g5 := g 5 (by decide)
    have g6 := g 6 (by decide)
    simp only [efC, List.getElem?_cons_zero, List.getElem?_cons_succ, Nat.zero_mul, Nat.one_mul, Nat.reduceMul, Nat.add_zero] at g0 g1 g2 g3 g4 g5 g6
    exact ⟨e6, g0, g1, g2, g3, g4, g5, g6, s0, s1⟩)
  clear HKCL0 HKCL1 HKCL2
  go_wp2_with fail
  go_region_held3 (fun w' => w'.cell? ⟨gE, 6, none⟩ = some (.slice (some ⟨b, o, none⟩) 3 vc) ∧ w'.cell? ⟨b, o, none⟩ = some (.int .i64 x0.k) ∧ w'.cell? ⟨b, o + 1, none⟩ = some (.int .i64 x0.w) ∧ w'.cell? ⟨b, o + 2, none⟩ = some (.int .i64 x0.o) ∧ w'.cell? ⟨b, o + 3, none⟩ = some (.int .u64 (x0.v : Nat)) ∧ w'.cell? ⟨b, o + 4, none⟩ = some (.int .i64 x0.c) ∧ w'.cell? ⟨b, o + 5, none⟩ = some (.int .i64 x0.l) ∧ w'.cell? ⟨b, o + 6, none⟩ = some (.slice ka0 kn0 kc0) ∧ w'.cell? ⟨gS, 0, none⟩ = some (.slice sa S.cells.length sc) ∧ w'.cell? ⟨gS, 1, none⟩ = some (.bool S.fault)) (first | exact HSS0.out _ ((Keep.refl W).drew) | exact HSS0.out _ ((Keep.refl W).drew.trans k2)) (first | (go_at_call 36; refine (HKC0.out _ (HKW.out.trans (Keep.refl W).drew)).mono ?_; rintro e w2 ⟨rfl, k2⟩))
  have HKw2 := Hid.mk ((Keep.refl W).drew.trans k2)
  clear k2
  go_wp2_with fail
  go_region_held3 (fun w' => w'.cell? ⟨gE, 6, none⟩ = some (.slice (some ⟨b, o, none⟩) 3 vc) ∧ w'.cell? ⟨b, o + 7, none⟩ = some (.int .i64 x1.k) ∧ w'.cell? ⟨b, o + 7 + 1, none⟩ = some (.int .i64 x1.w) ∧ w'.cell? ⟨b, o + 7 + 2, none⟩ = some (.int .i64 x1.o) ∧ w'.cell? ⟨b, o + 7 + 3, none⟩ = some (.int .u64 (x1.v : Nat)) ∧ w'.cell? ⟨b, o + 7 + 4, none⟩ = some (.int .i64 x1.c) ∧ w'.cell? ⟨b, o + 7 + 5, none⟩ = some (.int .i64 x1.l) ∧ w'.cell? ⟨b, o + 7 + 6, none⟩ = some (.slice ka1 kn1 kc1) ∧ w'.cell? ⟨gS, 0, none⟩ = some (.slice sa S.cells.length sc) ∧ w'.cell? ⟨gS, 1, none⟩ = some (.bool S.fault)) (first | exact HSS1.out _ (HKw2.out.drew) | exact HSS1.out _ (HKw2.out.drew.trans k2)) (first | (go_at_call 36; refine (HKC1.out _ (HKW.out.trans HKw2.out.drew)).mono ?_; rintro e w3 ⟨rfl, k2⟩))
  have HKw3 := Hid.mk (HKw2.out.drew.trans k2)
  clear k2
  go_wp2_with fail
  go_region_held3 (fun w' => w'.cell? ⟨gE, 6, none⟩ = some (.slice (some ⟨b, o, none⟩) 3 vc) ∧ w'.cell? ⟨b, o + 14, none⟩ = some (.int .i64 x2.k) ∧ w'.cell? ⟨b, o + 14 + 1, none⟩ = some (.int .i64 x2.w) ∧ w'.cell? ⟨b, o + 14 + 2, none⟩ = some (.int .i64 x2.o) ∧ w'.cell? ⟨b, o + 14 + 3, none⟩ = some (.int .u64 (x2.v : Nat)) ∧ w'.cell? ⟨b, o + 14 + 4, none⟩ = some (.int .i64 x2.c) ∧ w'.cell? ⟨b, o + 14 + 5, none⟩ = some (.int .i64 x2.l) ∧ w'.cell? ⟨b, o + 14 + 6, none⟩ = some (.slice ka2 kn2 kc2) ∧ w'.cell? ⟨gS, 0, none⟩ = some (.slice sa S.cells.length sc) ∧ w'.cell? ⟨gS, 1, none⟩ = some (.bool S.fault)) (first | exact HSS2.out _ (HKw3.out.drew) | exact HSS2.out _ (HKw3.out.drew.trans k2)) (first | (go_at_call 36; refine (HKC2.out _ (HKW.out.trans HKw3.out.drew)).mono ?_; rintro e w4 ⟨rfl, k2⟩))
  have HKw4 := Hid.mk (HKw3.out.drew.trans k2)
  clear k2
  by_cases c1 : n0 = 1
  · subst c1
    rw [if_pos rfl] at HR
    simp only [Prod.mk.injEq] at HR
    obtain ⟨rfl, rfl⟩ := HR.out
    cases f0 <;> cases f1
    all_goals
      go_wp2_with fail
      go_ret2
      exact ⟨by first | rfl | simp, HKW.out.trans HKw4.out⟩
  · rw [if_neg c1] at HR
    simp only [Prod.mk.injEq] at HR
    obtain ⟨rfl, rfl⟩ := HR.out
    have c2 : ((n0 : Int) == 1) = false := by simp; omega
    clear c1
    cases f0 <;> cases f1
    all_goals
      go_wp2_with fail
      go_ret2
      exact ⟨by first | rfl | simp, HKW.out.trans HKw4.out⟩
end Go.Proofs.Qxb6500772a
