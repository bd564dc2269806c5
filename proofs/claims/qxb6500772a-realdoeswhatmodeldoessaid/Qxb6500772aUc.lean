/- interpm: Eval, Select. -/
import Derived.Test.Qxb6500772aUb
import Derived.Test.Qxb6500772aTe
import Derived.Test.Qxb6500772aCj
import Derived.Deep.RegionHeld3
namespace Go.Proofs.Qxb6500772a
open Go.RowKit Go.Qm
set_option linter.unusedVariables false
set_option linter.unusedSimpArgs false
attribute [local go_sem ↓] Go.wp_at_zero Go.wp_at_succ
set_option maxRecDepth 6000 in
set_option maxHeartbeats 8000000 in
theorem ev_k3 {P : Nat → Prop} {ws : List Int} {f : EF} {t : EL} (IH : ∀ x ∈ t.toL, EvC P ws x.1 x.2) (hk : f.k = 3) : EvC P ws f t := by
  intro w v rows sv S hf hr he hwt hwo hsv hS
  obtain ⟨a, E, hcell⟩ : ∃ a, t.ws = [a] ∧ wtCells ws f.c f.l f.w := by
    obtain ⟨-, h⟩ := hwo
    rw [hk] at h
    rcases h with ⟨a, -⟩ | ⟨a, -⟩ | ⟨a, -⟩ | ⟨-, ⟨a, h1⟩, h2⟩ | ⟨a, -⟩ | ⟨a, -⟩ | ⟨a, -⟩
    · exact absurd a (by decide)
    · exact absurd a (by decide)
    · exact absurd a (by decide)
    · exact ⟨a, h1, h2⟩
    all_goals exact absurd a (by decide)
  obtain ⟨c0, c1, c2, -⟩ := hcell
  have hlen := hS.1
  have hrl : rows.length = 1 := by rw [he.len]; have := ws_len t; rw [E] at this; simpa using this.symm
  obtain ⟨va, vc, hvv, vv1, vv2⟩ := hr.form
  rw [hrl] at hvv vv1
  subst hvv
  have hr' := hr
  obtain ⟨b, o, hva, -, -, -⟩ := hr'.cell (i := 0) (by omega)
  subst hva
  have hl0 : 0 < t.toL.length := by have := ws_len t; rw [E] at this; simp [EL.len] at this; omega
  have hlr0 : 0 < rows.length := by rw [he.len]; exact hl0
  obtain ⟨kvv0, kr0, y01, y02, y03, y04⟩ := he.get 0 hl0 hlr0
  obtain ⟨b0, o0, ha0, hp0, hb0, hc0⟩ := hr'.cell hlr0
  have KC0 : ∀ V, Keep w V → Calls Try.prog 36 #[efA t.toL[0].1 kvv0, .agg #[sv, .bool S.fault]] V fun e w' => e = .returned (.tuple #[.int .u64 ((kv (evL t S) 0 : Nat) : Int), .bool (kf (evL t S) 0)]) ∧ Keep V w' := fun V kV => by
    have h9 := IH t.toL[0] (List.getElem_mem hl0) V kvv0 kr0 sv S y02 (y03.step (KP.of kV)) (y04.step (KP.of kV)) (wtL_mm hwt _ (List.getElem_mem hl0)).1 (wtL_mm hwt _ (List.getElem_mem hl0)).2 (hsv.keep kV) hS
    rw [← evL_get t S 0 hl0] at h9
    exact h9
  have hlt0 := evL_lt hS hwt 0 hl0
  have hwi0 := ws_get t 0 hl0
  generalize t.toL[0] = xx0 at *
  obtain ⟨x0, xk0⟩ := xx0
  simp only at y01 y02 y03 y04 KC0 hwi0
  obtain ⟨ka0, kc0, hkv0, -, -⟩ := y03.form
  generalize kr0.length = kn0 at hkv0
  subst hkv0
  obtain ⟨rfl, rfl⟩ : b = b0 ∧ o = o0 := by simpa using ha0
  have HC0 : Hid (∀ j < 7, w.cell? ⟨b, o + 0 * 7 + j, none⟩ = (efC x0 (.slice ka0 kn0 kc0))[j]?) := Hid.mk (fun j hj => by rw [hc0 j hj, y01])
  have kcell0 : ∀ Z, Keep w Z → ∀ j < 7, Z.cell? ⟨b, o + 0 * 7 + j, none⟩ = (efC x0 (.slice ka0 kn0 kc0))[j]? := fun Z kz j hj => by
    have h8 := HC0.out j hj
    have h7 : j < (efC x0 (.slice ka0 kn0 kc0)).length := by simpa [efC] using hj
    rw [List.getElem?_eq_getElem h7] at h8 ⊢
    exact kz.cell h8
  have HKC0 := Hid.mk KC0
  have HKCL0 := Hid.mk kcell0
  obtain ⟨sa, sc, hsvv, sv1, sv2⟩ := hsv.form
  subst hsvv
  unfold maxLen at vv2 sv2
  obtain ⟨W, hW⟩ : ∃ W, W = (w.alloc (.cells #[.int .i64 f.k, .int .i64 f.w, .int .i64 f.o, .int .u64 (f.v : Nat), .int .i64 f.c, .int .i64 f.l, .slice (some ⟨b, o, none⟩) 1 vc] 31)).alloc (.cells #[.slice sa S.cells.length sc, .bool S.fault] 37) := ⟨_, rfl⟩
  have kW : Keep w W := by rw [hW]; exact ((Keep.refl w).alloc _).alloc _
  have aE : Arr W w.heap.size 31 (EfC f (.slice (some ⟨b, o, none⟩) 1 vc)) := by rw [hW]; exact (Arr.new w 31 _).keep ((Keep.refl _).alloc _)
  have aS : Arr W (w.heap.size + 1) 37 [.slice sa S.cells.length sc, .bool S.fault] := by
    rw [hW]
    have := Arr.new (w.alloc (.cells #[.int .i64 f.k, .int .i64 f.w, .int .i64 f.o, .int .u64 (f.v : Nat), .int .i64 f.c, .int .i64 f.l, .slice (some ⟨b, o, none⟩) 1 vc] 31)) 37 [.slice sa S.cells.length sc, .bool S.fault]
    have e : (w.alloc (.cells #[.int .i64 f.k, .int .i64 f.w, .int .i64 f.o, .int .u64 (f.v : Nat), .int .i64 f.c, .int .i64 f.l, .slice (some ⟨b, o, none⟩) 1 vc] 31)).heap.size = w.heap.size + 1 := by simp
    rw [e] at this
    exact this
  have HKW := Hid.mk kW
  have HAE := Hid.mk aE
  have HAS := Hid.mk aS
  have HSV := Hid.mk hsv
  obtain ⟨e0, e1, e2, e3, e4, e5, e6⟩ := efC_cells aE
  have s0 : W.cell? ⟨w.heap.size + 1, 0, none⟩ = some (.slice sa S.cells.length sc) := aS.cell 0
  have s1 : W.cell? ⟨w.heap.size + 1, 1, none⟩ = some (.bool S.fault) := aS.cell 1
  simp only [efA] at HKC0 ⊢
  obtain ⟨C, hC⟩ : ∃ C : Nat, f.c = C := ⟨f.c.toNat, by omega⟩
  rw [E] at hlt0 hwi0
  simp only [List.getD_cons_zero, kw] at hlt0 hwi0
  obtain ⟨A, hA⟩ : ∃ A : Nat, a = A := ⟨a.toNat, by omega⟩
  subst hA
  have HR : Hid (evOne f (evL t S) t.ws S = if sgn (kv (evL t S) 0) A < 0 ∨ f.l ≤ sgn (kv (evL t S) 0) A then (0, true) else (S.cells.getD (f.c + sgn (kv (evL t S) 0) A).toNat 0, kf (evL t S) 0)) := Hid.mk (by rw [E]; simp [evOne, hk, kw])
  generalize evOne f (evL t S) t.ws S = res at *
  obtain ⟨res1, res2⟩ := res
  generalize kv (evL t S) 0 = n0 at *
  generalize kf (evL t S) 0 = f0 at *
  have SG := signed_c n0 A (by simpa using hlt0.2.2) (by omega) (by omega)
  have hsb := sgn_lo (v := n0) (w := A) (by omega) (by simpa using hlt0.2.2)
  have hpb : (2 : Int) ^ (A - 1) ≤ 9223372036854775808 := two_le (show A - 1 ≤ 63 by omega)
  obtain ⟨fl0, fl1⟩ := hf.l
  have HCL : Hid (∀ J : Nat, (J : Int) < f.l → C + J < S.cells.length) := Hid.mk (fun J hJ => by omega)
  have hxw : x0.w = (A : Int) := by rw [← hwi0]
  have hcb : (C : Int) + f.l ≤ 9223372036854775807 := by have := sv1; have := sv2; omega
  rw [hk] at e0
  rw [hC] at e4
  generalize sgn n0 A = sg at *
  have sg1 : -9223372036854775808 ≤ sg := by omega
  have sg2 : sg ≤ 9223372036854775807 := by omega
  have HHC := Hid.mk hC
  have HHL := Hid.mk hlen
  clear hr hr' he hwt hwo hsv kW aE aS IH hk hlt0 hwi0 hsb hpb hf hC hlen hrl E
  clear y01 y02 y03 y04 KC0 kcell0 hc0 HC0 ha0 hp0 hb0 hl0 hlr0
  go_enter Try.func36, Try.ntmps36
  go_upto_region 1 with fail
  rw [← hW]
  generalize w.heap.size + 1 = gS at *
  generalize w.heap.size = gE at *
  clear hW
  have HSS0 : Hid (∀ Z, Keep W Z → Z.cell? ⟨gE, 6, none⟩ = some (.slice (some ⟨b, o, none⟩) 1 vc) ∧ Z.cell? ⟨b, o, none⟩ = some (.int .i64 x0.k) ∧ Z.cell? ⟨b, o + 1, none⟩ = some (.int .i64 x0.w) ∧ Z.cell? ⟨b, o + 2, none⟩ = some (.int .i64 x0.o) ∧ Z.cell? ⟨b, o + 3, none⟩ = some (.int .u64 (x0.v : Nat)) ∧ Z.cell? ⟨b, o + 4, none⟩ = some (.int .i64 x0.c) ∧ Z.cell? ⟨b, o + 5, none⟩ = some (.int .i64 x0.l) ∧ Z.cell? ⟨b, o + 6, none⟩ = some (.slice ka0 kn0 kc0) ∧ Z.cell? ⟨gS, 0, none⟩ = some (.slice sa S.cells.length sc) ∧ Z.cell? ⟨gS, 1, none⟩ = some (.bool S.fault)) := Hid.mk (fun Z kz => by
    obtain ⟨e0, e1, e2, e3, e4, e5, e6⟩ := efC_cells (HAE.out.keep kz)
    have s0 : Z.cell? ⟨gS, 0, none⟩ = some (.slice sa S.cells.length sc) := (HAS.out.keep kz).cell 0
    have s1 : Z.cell? ⟨gS, 1, none⟩ = some (.bool S.fault) := (HAS.out.keep kz).cell 1
    have g := HKCL0.out Z (HKW.out.trans kz)
    have g0 := g 0 (by decide)
    have g1 := g 1 (by decide)
    have g2 := g 2 (by decide)
    have g3 := g 3 (by decide)
    have g4 := g 4 (by decide)
    have g5 := g 5 (by decide)
    have g6 := g 6 (by decide)
    simp only [efC, List.getElem?_cons_zero, List.getElem?_cons_succ, Nat.zero_mul, Nat.one_mul, Nat.reduceMul, Nat.add_zero] at g0 g1 g2 g3 g4 g5 g6
    exact ⟨e6, g0, g1, g2, g3, g4, g5, g6, s0, s1⟩)
  clear HKCL0
  have hS9 := Hid.mk hS
  clear hS
  have HXW := Hid.mk hxw
  clear hxw
  go_wp2_with fail
  go_region_held3 (fun w' => w'.cell? ⟨gE, 6, none⟩ = some (.slice (some ⟨b, o, none⟩) 1 vc) ∧ w'.cell? ⟨b, o, none⟩ = some (.int .i64 x0.k) ∧ w'.cell? ⟨b, o + 1, none⟩ = some (.int .i64 x0.w) ∧ w'.cell? ⟨b, o + 2, none⟩ = some (.int .i64 x0.o) ∧ w'.cell? ⟨b, o + 3, none⟩ = some (.int .u64 (x0.v : Nat)) ∧ w'.cell? ⟨b, o + 4, none⟩ = some (.int .i64 x0.c) ∧ w'.cell? ⟨b, o + 5, none⟩ = some (.int .i64 x0.l) ∧ w'.cell? ⟨b, o + 6, none⟩ = some (.slice ka0 kn0 kc0) ∧ w'.cell? ⟨gS, 0, none⟩ = some (.slice sa S.cells.length sc) ∧ w'.cell? ⟨gS, 1, none⟩ = some (.bool S.fault)) (first | exact HSS0.out _ ((Keep.refl W).drew) | exact HSS0.out _ ((Keep.refl W).drew.trans k2)) (first | (go_at_call 36; refine (HKC0.out _ (HKW.out.trans (Keep.refl W).drew)).mono ?_; rintro e w2 ⟨rfl, k2⟩))
  have HKw2 := Hid.mk ((Keep.refl W).drew.trans k2)
  clear k2
  obtain ⟨e0, e1, e2, e3, e4, e5, e6⟩ := efC_cells (HAE.out.keep HKw2.out)
  have s0 : w2.cell? ⟨gS, 0, none⟩ = some (.slice sa S.cells.length sc) := (HAS.out.keep HKw2.out).cell 0
  have kw0 := (HSS0.out w2 HKw2.out).2.2.1
  rw [← HXW.out] at SG
  rw [HHC.out] at e4
  clear kw0
  go_wp2_with fail
  refine (SG _).mono ?_
  rintro e y ⟨rfl, hy⟩
  subst hy
  by_cases sn : sg < 0
  · rw [if_pos (Or.inl sn)] at HR
    simp only [Prod.mk.injEq] at HR
    obtain ⟨rfl, rfl⟩ := HR.out
    go_wp2_with fail
    go_ret2
    exact ⟨rfl, HKW.out.trans HKw2.out⟩
  · by_cases sl : f.l ≤ sg
    · rw [if_pos (Or.inr sl)] at HR
      simp only [Prod.mk.injEq] at HR
      obtain ⟨rfl, rfl⟩ := HR.out
      have sn2 : 0 ≤ sg := by omega
      go_wp2_with fail
      go_ret2
      exact ⟨rfl, HKW.out.trans HKw2.out⟩
    · rw [if_neg (by omega)] at HR
      simp only [Prod.mk.injEq] at HR
      obtain ⟨h1, rfl⟩ := HR.out
      obtain ⟨J, rfl⟩ : ∃ J : Nat, sg = J := ⟨sg.toNat, by omega⟩
      have hCl := HCL.out J (by omega)
      obtain ⟨bs, os, hsa, hcc⟩ := (show Vs _ _ _ from HSV.out.keep (HKW.out.trans HKw2.out)).cell hCl
      subst hsa
      have e9 : res1 = S.cells[C + J] := by
        rw [h1, HHC.out, show ((C : Int) + (J : Int)).toNat = C + J by omega]
        simp [List.getD_eq_getElem?_getD, hCl]
      rw [← e9] at hcc
      have m1 : (C : Int) + J < S.cells.length := by omega
      have m2 : (0 : Int) ≤ (C : Int) + J := by omega
      have m3 : ¬ (J : Int) < 0 := by omega
      have m4 : (J : Int) < f.l := by omega
      clear h1 e9 HR sn sl c0 c1 c2
      go_wp2_with fail
      go_ret2
      exact ⟨rfl, HKW.out.trans HKw2.out⟩
end Go.Proofs.Qxb6500772a
