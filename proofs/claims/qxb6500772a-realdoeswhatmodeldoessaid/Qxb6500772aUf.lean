/- interpm: Eval, Binary. -/
import Derived.Test.Qxb6500772aUb
import Derived.Test.Qxb6500772aTe
import Derived.Test.Qxb6500772aCj
import Derived.Deep.RegionHeld3
namespace Go.Proofs.Qxb6500772a
open Go.RowKit Go.Qm
set_option linter.unusedVariables false
set_option linter.unusedSimpArgs false
attribute [local go_sem ↓] Go.wp_at_zero Go.wp_at_succ
set_option maxRecDepth 6000 in
set_option maxHeartbeats 8000000 in
theorem ev_k5a {P : Nat → Prop} {ws : List Int} {f : EF} {t : EL} (IH : ∀ x ∈ t.toL, EvC P ws x.1 x.2) (hk : f.k = 5) (hop : 5 ≤ f.o ∧ f.o ≤ 7) : EvC P ws f t := by
  intro w v rows sv S hf hr he hwt hwo hsv hS
  obtain ⟨a, E, hu⟩ : ∃ a, t.ws = [a, a] ∧ (5 ≤ f.o ∧ f.o ≤ 12 ∧ f.w = a ∨ 13 ≤ f.o ∧ f.o ≤ 18 ∧ f.w = 1) := by
    obtain ⟨-, h⟩ := hwo
    rw [hk] at h
    rcases h with ⟨a, -⟩ | ⟨a, -⟩ | ⟨a, -⟩ | ⟨a, -⟩ | ⟨a, -⟩ | ⟨-, a, h1, h2⟩ | ⟨a, -⟩
    · exact absurd a (by decide)
    · exact absurd a (by decide)
    · exact absurd a (by decide)
    · exact absurd a (by decide)
    · exact absurd a (by decide)
    · exact ⟨a, h1, h2⟩
    · exact absurd a (by decide)
  have hrl : rows.length = 2 := by rw [he.len]; have := ws_len t; rw [E] at this; simpa using this.symm
  obtain ⟨va, vc, hvv, vv1, vv2⟩ := hr.form
  rw [hrl] at hvv vv1
  subst hvv
  have hr' := hr
  obtain ⟨b, o, hva, -, -, -⟩ := hr'.cell (i := 0) (by omega)
  subst hva
  have hl0 : 0 < t.toL.length := by have := ws_len t; rw [E] at this; simp [EL.len] at this; omega
  have hlr0 : 0 < rows.length := by rw [he.len]; exact hl0
  obtain ⟨kvv0, kr0, y01, y02, y03, y04⟩ := he.get 0 hl0 hlr0
  obtain ⟨b0, o0, ha0, hp0, hb0, hc0⟩ := hr'.cell hlr0
  have KC0 : ∀ V, Keep w V → Calls Try.prog 36 #[efA t.toL[0].1 kvv0, .agg #[sv, .bool S.fault]] V fun e w' => e = .returned (.tuple #[.int .u64 ((kv (evL t S) 0 : Nat) : Int), .bool (kf (evL t S) 0)]) ∧ Keep V w' := fun V kV => by
    have h9 := IH t.toL[0] (List.getElem_mem hl0) V kvv0 kr0 sv S y02 (y03.step (KP.of kV)) (y04.step (KP.of kV)) (wtL_mm hwt _ (List.getElem_mem hl0)).1 (wtL_mm hwt _ (List.getElem_mem hl0)).2 (hsv.keep kV) hS
    rw [← evL_get t S 0 hl0] at h9
    exact h9
  have hlt0 := evL_lt hS hwt 0 hl0
  have hwi0 := ws_get t 0 hl0
  have hl1 : 1 < t.toL.length := by have := ws_len t; rw [E] at this; simp [EL.len] at this; omega
  have hlr1 : 1 < rows.length := by rw [he.len]; exact hl1
  obtain ⟨kvv1, kr1, y11, y12, y13, y14⟩ := he.get 1 hl1 hlr1
  obtain ⟨b1, o1, ha1, hp1, hb1, hc1⟩ := hr'.cell hlr1
  have KC1 : ∀ V, Keep w V → Calls Try.prog 36 #[efA t.toL[1].1 kvv1, .agg #[sv, .bool S.fault]] V fun e w' => e = .returned (.tuple #[.int .u64 ((kv (evL t S) 1 : Nat) : Int), .bool (kf (evL t S) 1)]) ∧ Keep V w' := fun V kV => by
    have h9 := IH t.toL[1] (List.getElem_mem hl1) V kvv1 kr1 sv S y12 (y13.step (KP.of kV)) (y14.step (KP.of kV)) (wtL_mm hwt _ (List.getElem_mem hl1)).1 (wtL_mm hwt _ (List.getElem_mem hl1)).2 (hsv.keep kV) hS
    rw [← evL_get t S 1 hl1] at h9
    exact h9
  have hlt1 := evL_lt hS hwt 1 hl1
  have hwi1 := ws_get t 1 hl1
  generalize t.toL[0] = xx0 at *
  obtain ⟨x0, xk0⟩ := xx0
  simp only at y01 y02 y03 y04 KC0 hwi0
  obtain ⟨ka0, kc0, hkv0, -, -⟩ := y03.form
  generalize kr0.length = kn0 at hkv0
  subst hkv0
  obtain ⟨rfl, rfl⟩ : b = b0 ∧ o = o0 := by simpa using ha0
  have HC0 : Hid (∀ j < 7, w.cell? ⟨b, o + 0 * 7 + j, none⟩ = (efC x0 (.slice ka0 kn0 kc0))[j]?) := Hid.mk (fun j hj => by rw [hc0 j hj, y01])
  have kcell0 : ∀ Z, Keep w Z → ∀ j < 7, Z.cell? ⟨b, o + 0 * 7 + j, none⟩ = (efC x0 (.slice ka0 kn0 kc0))[j]? := fun Z kz j hj => by
    have h8 := HC0.out j hj
    have h7 : j < (efC x0 (.slice ka0 kn0 kc0)).length := by simpa [efC] using hj
    rw [List.getElem?_eq_getElem h7] at h8 ⊢
    exact kz.cell h8
  have HKC0 := Hid.mk KC0
  have HKCL0 := Hid.mk kcell0
  generalize t.toL[1] = xx1 at *
  obtain ⟨x1, xk1⟩ := xx1
  simp only at y11 y12 y13 y14 KC1 hwi1
  obtain ⟨ka1, kc1, hkv1, -, -⟩ := y13.form
  generalize kr1.length = kn1 at hkv1
  subst hkv1
  obtain ⟨rfl, rfl⟩ : b = b1 ∧ o = o1 := by simpa using ha1
  have HC1 : Hid (∀ j < 7, w.cell? ⟨b, o + 1 * 7 + j, none⟩ = (efC x1 (.slice ka1 kn1 kc1))[j]?) := Hid.mk (fun j hj => by rw [hc1 j hj, y11])
  have kcell1 : ∀ Z, Keep w Z → ∀ j < 7, Z.cell? ⟨b, o + 1 * 7 + j, none⟩ = (efC x1 (.slice ka1 kn1 kc1))[j]? := fun Z kz j hj => by
    have h8 := HC1.out j hj
    have h7 : j < (efC x1 (.slice ka1 kn1 kc1)).length := by simpa [efC] using hj
    rw [List.getElem?_eq_getElem h7] at h8 ⊢
    exact kz.cell h8
  have HKC1 := Hid.mk KC1
  have HKCL1 := Hid.mk kcell1
  obtain ⟨sa, sc, hsvv, sv1, sv2⟩ := hsv.form
  subst hsvv
  unfold maxLen at vv2 sv2
  obtain ⟨W, hW⟩ : ∃ W, W = (w.alloc (.cells #[.int .i64 f.k, .int .i64 f.w, .int .i64 f.o, .int .u64 (f.v : Nat), .int .i64 f.c, .int .i64 f.l, .slice (some ⟨b, o, none⟩) 2 vc] 31)).alloc (.cells #[.slice sa S.cells.length sc, .bool S.fault] 37) := ⟨_, rfl⟩
  have kW : Keep w W := by rw [hW]; exact ((Keep.refl w).alloc _).alloc _
  have aE : Arr W w.heap.size 31 (EfC f (.slice (some ⟨b, o, none⟩) 2 vc)) := by rw [hW]; exact (Arr.new w 31 _).keep ((Keep.refl _).alloc _)
  have aS : Arr W (w.heap.size + 1) 37 [.slice sa S.cells.length sc, .bool S.fault] := by
    rw [hW]
    have := Arr.new (w.alloc (.cells #[.int .i64 f.k, .int .i64 f.w, .int .i64 f.o, .int .u64 (f.v : Nat), .int .i64 f.c, .int .i64 f.l, .slice (some ⟨b, o, none⟩) 2 vc] 31)) 37 [.slice sa S.cells.length sc, .bool S.fault]
    have e : (w.alloc (.cells #[.int .i64 f.k, .int .i64 f.w, .int .i64 f.o, .int .u64 (f.v : Nat), .int .i64 f.c, .int .i64 f.l, .slice (some ⟨b, o, none⟩) 2 vc] 31)).heap.size = w.heap.size + 1 := by simp
    rw [e] at this
    exact this
  have HKW := Hid.mk kW
  have HAE := Hid.mk aE
  have HAS := Hid.mk aS
  have HSV := Hid.mk hsv
  obtain ⟨e0, e1, e2, e3, e4, e5, e6⟩ := efC_cells aE
  have s0 : W.cell? ⟨w.heap.size + 1, 0, none⟩ = some (.slice sa S.cells.length sc) := aS.cell 0
  have s1 : W.cell? ⟨w.heap.size + 1, 1, none⟩ = some (.bool S.fault) := aS.cell 1
  simp only [efA] at HKC0 HKC1 ⊢
  rw [E] at hlt0 hwi0 hlt1 hwi1
  simp only [List.getD_cons_zero, List.getD_cons_succ, kw] at hlt0 hwi0 hlt1 hwi1
  obtain ⟨A, hA⟩ : ∃ A : Nat, a = A := ⟨a.toNat, by omega⟩
  subst hA
  have hn : kv (evL t S) 0 < 2 ^ A := by simpa using hlt0.2.2
  have hm : kv (evL t S) 1 < 2 ^ A := by simpa using hlt1.2.2
  have A64 : A ≤ 64 := by omega
  have A1 : 1 ≤ A := by omega
  have hn64 : kv (evL t S) 0 < 2 ^ 64 := Nat.lt_of_lt_of_le hn (Nat.pow_le_pow_right (by decide) A64)
  have hm64 : kv (evL t S) 1 < 2 ^ 64 := Nat.lt_of_lt_of_le hm (Nat.pow_le_pow_right (by decide) A64)
  have HR : Hid (evOne f (evL t S) t.ws S = (binF f.o (kv (evL t S) 0) (kv (evL t S) 1) A, binD f.o (kv (evL t S) 1) || (kf (evL t S) 0 || kf (evL t S) 1))) := Hid.mk (by rw [E]; simp [evOne, hk, kw])
  generalize evOne f (evL t S) t.ws S = res at *
  obtain ⟨res1, res2⟩ := res
  generalize kv (evL t S) 0 = n0 at *
  generalize kf (evL t S) 0 = f0 at *
  generalize kv (evL t S) 1 = n1 at *
  generalize kf (evL t S) 1 = f1 at *
  have hxw : x0.w = (A : Int) := by rw [← hwi0]
  have HSG0 := Hid.mk (signed_c n0 A hn A1 A64)
  have HSG1 := Hid.mk (signed_c n1 A hm A1 A64)
  rw [← hxw] at HSG0 HSG1
  have HLI : Hid (∀ z : Int, Pure1 39 #[.int .u64 (IntKind.u64.wrap z), .int .i64 x0.w] (.int .u64 (((z % 2 ^ A).toNat : Nat) : Int))) := Hid.mk (fun z => by rw [hxw]; exact low_i z A64)
  have HO : Hid (f.o = 5 ∨ f.o = 6 ∨ f.o = 7) := Hid.mk (by omega)
  have HN := Hid.mk hn
  have HM := Hid.mk hm
  have HN64 := Hid.mk hn64
  have HM64 := Hid.mk hm64
  have HA64 := Hid.mk A64
  have HA1 := Hid.mk A1
  rw [hk] at e0
  clear hr hr' he hwt hwo hsv kW aE aS IH hk hlt0 hwi0 hlt1 hwi1 hf hrl E hS hn hm hn64 hm64 hu hxw A64 A1 hop
  clear y01 y02 y03 y04 KC0 kcell0 hc0 HC0 ha0 hp0 hb0 hl0 hlr0 y11 y12 y13 y14 KC1 kcell1 hc1 HC1 ha1 hp1 hb1 hl1 hlr1
  go_enter Try.func36, Try.ntmps36
  go_upto_region 1 with fail
  rw [← hW]
  generalize w.heap.size + 1 = gS at *
  generalize w.heap.size = gE at *
  clear hW
  have HSS0 : Hid (∀ Z, Keep W Z → Z.cell? ⟨gE, 6, none⟩ = some (.slice (some ⟨b, o, none⟩) 2 vc) ∧ Z.cell? ⟨b, o, none⟩ = some (.int .i64 x0.k) ∧ Z.cell? ⟨b, o + 1, none⟩ = some (.int .i64 x0.w) ∧ Z.cell? ⟨b, o + 2, none⟩ = some (.int .i64 x0.o) ∧ Z.cell? ⟨b, o + 3, none⟩ = some (.int .u64 (x0.v : Nat)) ∧ Z.cell? ⟨b, o + 4, none⟩ = some (.int .i64 x0.c) ∧ Z.cell? ⟨b, o + 5, none⟩ = some (.int .i64 x0.l) ∧ Z.cell? ⟨b, o + 6, none⟩ = some (.slice ka0 kn0 kc0) ∧ Z.cell? ⟨gS, 0, none⟩ = some (.slice sa S.cells.length sc) ∧ Z.cell? ⟨gS, 1, none⟩ = some (.bool S.fault)) := Hid.mk (fun Z kz => by
    obtain ⟨e0, e1, e2, e3, e4, e5, e6⟩ := efC_cells (HAE.out.keep kz)
    have s0 : Z.cell? ⟨gS, 0, none⟩ = some (.slice sa S.cells.length sc) := (HAS.out.keep kz).cell 0
    have s1 : Z.cell? ⟨gS, 1, none⟩ = some (.bool S.fault) := (HAS.out.keep kz).cell 1
    have g := HKCL0.out Z (HKW.out.trans kz)
    have g0 := g 0 (by decide)
    have g1 := g 1 (by decide)
    have g2 := g 2 (by decide)
    have g3 := g 3 (by decide)
    have g4 := g 4 (by decide)
    have g5 := g 5 (by decide)
    have g6 := g 6 (by decide)
    simp only [efC, List.getElem?_cons_zero, List.getElem?_cons_succ, Nat.zero_mul, Nat.one_mul, Nat.reduceMul, Nat.add_zero] at g0 g1 g2 g3 g4 g5 g6
    exact ⟨e6, g0, g1, g2, g3, g4, g5, g6, s0, s1⟩)
  have HSS1 : Hid (∀ Z, Keep W Z → Z.cell? ⟨gE, 6, none⟩ = some (.slice (some ⟨b, o, none⟩) 2 vc) ∧ Z.cell? ⟨b, o + 7, none⟩ = some (.int .i64 x1.k) ∧ Z.cell? ⟨b, o + 7 + 1, none⟩ = some (.int .i64 x1.w) ∧ Z.cell? ⟨b, o + 7 + 2, none⟩ = some (.int .i64 x1.o) ∧ Z.cell? ⟨b, o + 7 + 3, none⟩ = some (.int .u64 (x1.v : Nat)) ∧ Z.cell? ⟨b, o + 7 + 4, none⟩ = some (.int .i64 x1.c) ∧ Z.cell? ⟨b, o + 7 + 5, none⟩ = some (.int .i64 x1.l) ∧ Z.cell? ⟨b, o + 7 + 6, none⟩ = some (.slice ka1 kn1 kc1) ∧ Z.cell? ⟨gS, 0, none⟩ = some (.slice sa S.cells.length sc) ∧ Z.cell? ⟨gS, 1, none⟩ = some (.bool S.fault)) := Hid.mk (fun Z kz => by
    obtain ⟨e0, e1, e2, e3, e4, e5, e6⟩ := efC_cells (HAE.out.keep kz)
    have s0 : Z.cell? ⟨gS, 0, none⟩ = some (.slice sa S.cells.length sc) := (HAS.out.keep kz).cell 0
    have s1 : Z.cell? ⟨gS, 1, none⟩ = some (.bool S.fault) := (HAS.out.keep kz).cell 1
    have g := HKCL1.out Z (HKW.out.trans kz)
    have g0 := g 0 (by decide)
    have g1 := g 1 (by decide)
    have g2 := g 2 (by decide)
    have g3 := g 3 (by decide)
    have g4 := g 4 (by decide)
    have g5 := g 5 (by decide)
    have g6 := g 6 (by decide)
    simp only [efC, List.getElem?_cons_zero, List.getElem?_cons_succ, Nat.zero_mul, Nat.one_mul, Nat.reduceMul, Nat.add_zero] at g0 g1 g2 g3 g4 g5 g6
    exact ⟨e6, g0, g1, g2, g3, g4, g5, g6, s0, s1⟩)
  clear HKCL0 HKCL1
  go_wp2_with fail
  go_region_held3 (fun w' => w'.cell? ⟨gE, 6, none⟩ = some (.slice (some ⟨b, o, none⟩) 2 vc) ∧ w'.cell? ⟨b, o, none⟩ = some (.int .i64 x0.k) ∧ w'.cell? ⟨b, o + 1, none⟩ = some (.int .i64 x0.w) ∧ w'.cell? ⟨b, o + 2, none⟩ = some (.int .i64 x0.o) ∧ w'.cell? ⟨b, o + 3, none⟩ = some (.int .u64 (x0.v : Nat)) ∧ w'.cell? ⟨b, o + 4, none⟩ = some (.int .i64 x0.c) ∧ w'.cell? ⟨b, o + 5, none⟩ = some (.int .i64 x0.l) ∧ w'.cell? ⟨b, o + 6, none⟩ = some (.slice ka0 kn0 kc0) ∧ w'.cell? ⟨gS, 0, none⟩ = some (.slice sa S.cells.length sc) ∧ w'.cell? ⟨gS, 1, none⟩ = some (.bool S.fault)) (first | exact HSS0.out _ ((Keep.refl W).drew) | exact HSS0.out _ ((Keep.refl W).drew.trans k2)) (first | (go_at_call 36; refine (HKC0.out _ (HKW.out.trans (Keep.refl W).drew)).mono ?_; rintro e w2 ⟨rfl, k2⟩))
  have HKw2 := Hid.mk ((Keep.refl W).drew.trans k2)
  clear k2
  go_wp2_with fail
  go_region_held3 (fun w' => w'.cell? ⟨gE, 6, none⟩ = some (.slice (some ⟨b, o, none⟩) 2 vc) ∧ w'.cell? ⟨b, o + 7, none⟩ = some (.int .i64 x1.k) ∧ w'.cell? ⟨b, o + 7 + 1, none⟩ = some (.int .i64 x1.w) ∧ w'.cell? ⟨b, o + 7 + 2, none⟩ = some (.int .i64 x1.o) ∧ w'.cell? ⟨b, o + 7 + 3, none⟩ = some (.int .u64 (x1.v : Nat)) ∧ w'.cell? ⟨b, o + 7 + 4, none⟩ = some (.int .i64 x1.c) ∧ w'.cell? ⟨b, o + 7 + 5, none⟩ = some (.int .i64 x1.l) ∧ w'.cell? ⟨b, o + 7 + 6, none⟩ = some (.slice ka1 kn1 kc1) ∧ w'.cell? ⟨gS, 0, none⟩ = some (.slice sa S.cells.length sc) ∧ w'.cell? ⟨gS, 1, none⟩ = some (.bool S.fault)) (first | exact HSS1.out _ (HKw2.out.drew) | exact HSS1.out _ (HKw2.out.drew.trans k2)) (first | (go_at_call 36; refine (HKC1.out _ (HKW.out.trans HKw2.out.drew)).mono ?_; rintro e w3 ⟨rfl, k2⟩))
  have HKw3 := Hid.mk (HKw2.out.drew.trans k2)
  clear k2
  obtain ⟨e0, e1, e2, e3, e4, e5, e6⟩ := efC_cells (HAE.out.keep HKw3.out)
  have s0 : w3.cell? ⟨gS, 0, none⟩ = some (.slice sa S.cells.length sc) := (HAS.out.keep HKw3.out).cell 0
  have kw0 := (HSS0.out w3 HKw3.out).2.2.1
  cases f0
  all_goals
    go_wp2_with fail
    refine (HSG0.out _).mono ?_
    rintro e y ⟨rfl, hy⟩
    subst hy
    go_wp2_with fail
    refine (HSG1.out _).mono ?_
    rintro e y ⟨rfl, hy⟩
    subst hy
    rcases HO.out with ho | ho | ho
    · as_aux_lemma =>
        have EB := Hid.mk (bits_and_u64 n0 n1 HN64.out HM64.out)
        have hb : binF f.o n0 n1 A = n0 &&& n1 := by rw [ho]; rfl
        have hd : binD f.o n1 = false := by rw [ho]; simp [binD]
        rw [hb, hd] at HR
        simp only [Prod.mk.injEq] at HR
        obtain ⟨h1, rfl⟩ := HR.out
        have H1 := Hid.mk h1
        rw [ho] at e2
        clear ho hb hd HR h1
        go_wp2_with fail
        go_ret2
        exact ⟨by rw [H1.out, ← EB.out]; first | rfl | simp, HKW.out.trans HKw3.out⟩
    · as_aux_lemma =>
        have EB := Hid.mk (bits_or_u64 n0 n1 HN64.out HM64.out)
        have hb : binF f.o n0 n1 A = n0 ||| n1 := by rw [ho]; rfl
        have hd : binD f.o n1 = false := by rw [ho]; simp [binD]
        rw [hb, hd] at HR
        simp only [Prod.mk.injEq] at HR
        obtain ⟨h1, rfl⟩ := HR.out
        have H1 := Hid.mk h1
        rw [ho] at e2
        clear ho hb hd HR h1
        go_wp2_with fail
        go_ret2
        exact ⟨by rw [H1.out, ← EB.out]; first | rfl | simp, HKW.out.trans HKw3.out⟩
    · as_aux_lemma =>
        have EB := Hid.mk (bits_xor_u64 n0 n1 HN64.out HM64.out)
        have hb : binF f.o n0 n1 A = n0 ^^^ n1 := by rw [ho]; rfl
        have hd : binD f.o n1 = false := by rw [ho]; simp [binD]
        rw [hb, hd] at HR
        simp only [Prod.mk.injEq] at HR
        obtain ⟨h1, rfl⟩ := HR.out
        have H1 := Hid.mk h1
        rw [ho] at e2
        clear ho hb hd HR h1
        go_wp2_with fail
        go_ret2
        exact ⟨by rw [H1.out, ← EB.out]; first | rfl | simp, HKW.out.trans HKw3.out⟩
end Go.Proofs.Qxb6500772a
