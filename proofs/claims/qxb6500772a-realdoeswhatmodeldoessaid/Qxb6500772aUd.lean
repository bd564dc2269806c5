/- interpm: Eval, Unary. -/
import Derived.Test.Qxb6500772aUb
import Derived.Test.Qxb6500772aTe
import Derived.Test.Qxb6500772aCj
import Derived.Deep.RegionHeld3
namespace Go.Proofs.Qxb6500772a
open Go.RowKit Go.Qm
set_option linter.unusedVariables false
set_option linter.unusedSimpArgs false
attribute [local go_sem ↓] Go.wp_at_zero Go.wp_at_succ
theorem xor_max {n : Nat} (h : n < 2 ^ 64) : bits .xor .u64 IntKind.u64.max (n : Int) = ((2 ^ 64 - 1 - n : Nat) : Int) := by
  have e3 : IntKind.u64.max = ((2 ^ 64 - 1 : Nat) : Int) := by decide
  rw [e3, bits_xor_u64 _ _ (by decide) h]
  congr 1
  apply Nat.eq_of_testBit_eq
  intro i
  rw [show 2 ^ 64 - 1 - n = 2 ^ 64 - (n + 1) by omega, Nat.testBit_two_pow_sub_succ h, Nat.testBit_xor, Nat.testBit_two_pow_sub_one]
  by_cases hi : i < 64
  · simp [hi]
  · have : n.testBit i = false := Nat.testBit_lt_two_pow (Nat.lt_of_lt_of_le h (Nat.pow_le_pow_right (by decide) (by omega)))
    simp [hi, this]
theorem mod_not {n D : Nat} (h : n < 2 ^ D) (hD : D ≤ 64) : (2 ^ 64 - 1 - n) % 2 ^ D = 2 ^ D - 1 - n := by
  obtain ⟨k, hk⟩ := Nat.pow_dvd_pow 2 hD
  have h0 := Nat.two_pow_pos D
  have hk0 : 0 < k := by
    rcases Nat.eq_zero_or_pos k with e | e
    · subst e; simp at hk
    · exact e
  have e : 2 ^ 64 - 1 - n = (2 ^ D - 1 - n) + 2 ^ D * (k - 1) := by
    have : 2 ^ D * k = 2 ^ D + 2 ^ D * (k - 1) := by
      have e0 : k = (k - 1) + 1 := by omega
      rw [e0, Nat.mul_succ, Nat.add_sub_cancel]; omega
    omega
  rw [e, Nat.add_mul_mod_self_left, Nat.mod_eq_of_lt (by omega)]
set_option maxRecDepth 6000 in
set_option maxHeartbeats 8000000 in
theorem ev_k4 {P : Nat → Prop} {ws : List Int} {f : EF} {t : EL} (IH : ∀ x ∈ t.toL, EvC P ws x.1 x.2) (hk : f.k = 4) : EvC P ws f t := by
  intro w v rows sv S hf hr he hwt hwo hsv hS
  obtain ⟨a, E, hu⟩ : ∃ a, t.ws = [a] ∧ ((f.o = 0 ∨ f.o = 1) ∧ a = f.w ∨ (f.o = 2 ∨ f.o = 3) ∧ a ≤ f.w ∨ f.o = 4 ∧ f.w ≤ a) := by
    obtain ⟨-, h⟩ := hwo
    rw [hk] at h
    rcases h with ⟨a, -⟩ | ⟨a, -⟩ | ⟨a, -⟩ | ⟨a, -⟩ | ⟨-, a, h1, h2⟩ | ⟨a, -⟩ | ⟨a, -⟩
    · exact absurd a (by decide)
    · exact absurd a (by decide)
    · exact absurd a (by decide)
    · exact absurd a (by decide)
    · exact ⟨a, h1, h2⟩
    all_goals exact absurd a (by decide)
  have hfw := hwo.1
  have hrl : rows.length = 1 := by rw [he.len]; have := ws_len t; rw [E] at this; simpa using this.symm
  obtain ⟨va, vc, hvv, vv1, vv2⟩ := hr.form
  rw [hrl] at hvv vv1
  subst hvv
  have hr' := hr
  obtain ⟨b, o, hva, -, -, -⟩ := hr'.cell (i := 0) (by omega)
  subst hva
  have hl0 : 0 < t.toL.length := by have := ws_len t; rw [E] at this; simp [EL.len] at this; omega
  have hlr0 : 0 < rows.length := by rw [he.len]; exact hl0
  obtain ⟨kvv0, kr0, y01, y02, y03, y04⟩ := he.get 0 hl0 hlr0
  obtain ⟨b0, o0, ha0, hp0, hb0, hc0⟩ := hr'.cell hlr0
  have KC0 : ∀ V, Keep w V → Calls Try.prog 36 #[efA t.toL[0].1 kvv0, .agg #[sv, .bool S.fault]] V fun e w' => e = .returned (.tuple #[.int .u64 ((kv (evL t S) 0 : Nat) : Int), .bool (kf (evL t S) 0)]) ∧ Keep V w' := fun V kV => by
    have h9 := IH t.toL[0] (List.getElem_mem hl0) V kvv0 kr0 sv S y02 (y03.step (KP.of kV)) (y04.step (KP.of kV)) (wtL_mm hwt _ (List.getElem_mem hl0)).1 (wtL_mm hwt _ (List.getElem_mem hl0)).2 (hsv.keep kV) hS
    rw [← evL_get t S 0 hl0] at h9
    exact h9
  have hlt0 := evL_lt hS hwt 0 hl0
  have hwi0 := ws_get t 0 hl0
  generalize t.toL[0] = xx0 at *
  obtain ⟨x0, xk0⟩ := xx0
  simp only at y01 y02 y03 y04 KC0 hwi0
  obtain ⟨ka0, kc0, hkv0, -, -⟩ := y03.form
  generalize kr0.length = kn0 at hkv0
  subst hkv0
  obtain ⟨rfl, rfl⟩ : b = b0 ∧ o = o0 := by simpa using ha0
  have HC0 : Hid (∀ j < 7, w.cell? ⟨b, o + 0 * 7 + j, none⟩ = (efC x0 (.slice ka0 kn0 kc0))[j]?) := Hid.mk (fun j hj => by rw [hc0 j hj, y01])
  have kcell0 : ∀ Z, Keep w Z → ∀ j < 7, Z.cell? ⟨b, o + 0 * 7 + j, none⟩ = (efC x0 (.slice ka0 kn0 kc0))[j]? := fun Z kz j hj => by
    have h8 := HC0.out j hj
    have h7 : j < (efC x0 (.slice ka0 kn0 kc0)).length := by simpa [efC] using hj
    rw [List.getElem?_eq_getElem h7] at h8 ⊢
    exact kz.cell h8
  have HKC0 := Hid.mk KC0
  have HKCL0 := Hid.mk kcell0
  obtain ⟨sa, sc, hsvv, sv1, sv2⟩ := hsv.form
  subst hsvv
  unfold maxLen at vv2 sv2
  obtain ⟨W, hW⟩ : ∃ W, W = (w.alloc (.cells #[.int .i64 f.k, .int .i64 f.w, .int .i64 f.o, .int .u64 (f.v : Nat), .int .i64 f.c, .int .i64 f.l, .slice (some ⟨b, o, none⟩) 1 vc] 31)).alloc (.cells #[.slice sa S.cells.length sc, .bool S.fault] 37) := ⟨_, rfl⟩
  have kW : Keep w W := by rw [hW]; exact ((Keep.refl w).alloc _).alloc _
  have aE : Arr W w.heap.size 31 (EfC f (.slice (some ⟨b, o, none⟩) 1 vc)) := by rw [hW]; exact (Arr.new w 31 _).keep ((Keep.refl _).alloc _)
  have aS : Arr W (w.heap.size + 1) 37 [.slice sa S.cells.length sc, .bool S.fault] := by
    rw [hW]
    have := Arr.new (w.alloc (.cells #[.int .i64 f.k, .int .i64 f.w, .int .i64 f.o, .int .u64 (f.v : Nat), .int .i64 f.c, .int .i64 f.l, .slice (some ⟨b, o, none⟩) 1 vc] 31)) 37 [.slice sa S.cells.length sc, .bool S.fault]
    have e : (w.alloc (.cells #[.int .i64 f.k, .int .i64 f.w, .int .i64 f.o, .int .u64 (f.v : Nat), .int .i64 f.c, .int .i64 f.l, .slice (some ⟨b, o, none⟩) 1 vc] 31)).heap.size = w.heap.size + 1 := by simp
    rw [e] at this
    exact this
  have HKW := Hid.mk kW
  have HAE := Hid.mk aE
  have HAS := Hid.mk aS
  have HSV := Hid.mk hsv
  obtain ⟨e0, e1, e2, e3, e4, e5, e6⟩ := efC_cells aE
  have s0 : W.cell? ⟨w.heap.size + 1, 0, none⟩ = some (.slice sa S.cells.length sc) := aS.cell 0
  have s1 : W.cell? ⟨w.heap.size + 1, 1, none⟩ = some (.bool S.fault) := aS.cell 1
  simp only [efA] at HKC0 ⊢
  obtain ⟨D, hD⟩ : ∃ D : Nat, f.w = D := ⟨f.w.toNat, by omega⟩
  rw [E] at hlt0 hwi0
  simp only [List.getD_cons_zero, kw] at hlt0 hwi0
  obtain ⟨A, hA⟩ : ∃ A : Nat, a = A := ⟨a.toNat, by omega⟩
  subst hA
  have hn : kv (evL t S) 0 < 2 ^ A := by simpa using hlt0.2.2
  have hn64 : kv (evL t S) 0 < 2 ^ 64 := Nat.lt_of_lt_of_le hn (Nat.pow_le_pow_right (by decide) (by omega))
  have HR : Hid (evOne f (evL t S) t.ws S = (unF f.o (kv (evL t S) 0) A D, kf (evL t S) 0)) := Hid.mk (by rw [E]; simp [evOne, hk, kw, hD])
  generalize evOne f (evL t S) t.ws S = res at *
  obtain ⟨res1, res2⟩ := res
  generalize kv (evL t S) 0 = n0 at *
  generalize kf (evL t S) 0 = f0 at *
  have SG := signed_c n0 A hn (by omega) (by omega)
  have hxw : x0.w = (A : Int) := by rw [← hwi0]
  rw [← hxw] at SG
  have D64 : D ≤ 64 := by omega
  rw [hk] at e0
  have HU : Hid (unF f.o n0 A D = if f.o = 0 then 2 ^ D - 1 - n0 else if f.o = 1 then wop 1 0 n0 D else if f.o = 2 then (sgn n0 A % 2 ^ D).toNat else if f.o = 3 then n0 else n0 % 2 ^ D) := Hid.mk rfl
  have L0 : f.o = 0 → Pure1 39 #[.int .u64 (bits .xor .u64 IntKind.u64.max (n0 : Int)), .int .i64 f.w] (.int .u64 ((2 ^ D - 1 - n0 : Nat) : Int)) := fun e => by
    have hAD : A = D := by omega
    rw [hD, xor_max hn64, ← mod_not (n := n0) (D := D) (by rw [← hAD]; exact hn) D64]
    exact low_c _ D (by omega) D64
  have L1 : f.o = 1 → Pure1 39 #[.int .u64 (IntKind.u64.wrap (-(n0 : Int))), .int .i64 f.w] (.int .u64 ((wop 1 0 n0 D : Nat) : Int)) := fun e => by
    have hAD : A = D := by omega
    have h9 := low_i (-(n0 : Int)) D64
    have e9 := wop1 (x := 0) (y := n0) (wd := D) (by rw [← hAD]; exact hn)
    rw [show ((0 : Nat) : Int) - (n0 : Int) = -(n0 : Int) by omega] at e9
    rw [e9] at h9
    rw [hD]; exact h9
  have L2 : Pure1 39 #[.int .u64 (IntKind.u64.wrap (sgn n0 A)), .int .i64 f.w] (.int .u64 (((sgn n0 A % 2 ^ D).toNat : Nat) : Int)) := by rw [hD]; exact low_i (sgn n0 A) D64
  have L4 : Pure1 39 #[.int .u64 (n0 : Int), .int .i64 f.w] (.int .u64 ((n0 % 2 ^ D : Nat) : Int)) := by rw [hD]; exact low_c n0 D hn64 D64
  generalize sgn n0 A = sg at *
  generalize (sg % 2 ^ D).toNat = rs at *
  have hfo : f.o = 0 ∨ f.o = 1 ∨ f.o = 2 ∨ f.o = 3 ∨ f.o = 4 := by omega
  have HL0 := Hid.mk L0
  have HL1 := Hid.mk L1
  have HL2 := Hid.mk L2
  have HL4 := Hid.mk L4
  have HSG := Hid.mk SG
  have HFO := Hid.mk hfo
  clear hr hr' he hwt hwo hsv kW aE aS IH hk hlt0 hwi0 hf hrl E hS hn hn64 hfw hD hu L0 L1 L2 L4 SG hfo D64 hxw
  clear y01 y02 y03 y04 KC0 kcell0 hc0 HC0 ha0 hp0 hb0 hl0 hlr0
  go_enter Try.func36, Try.ntmps36
  go_upto_region 1 with fail
  rw [← hW]
  generalize w.heap.size + 1 = gS at *
  generalize w.heap.size = gE at *
  clear hW
  have HSS0 : Hid (∀ Z, Keep W Z → Z.cell? ⟨gE, 6, none⟩ = some (.slice (some ⟨b, o, none⟩) 1 vc) ∧ Z.cell? ⟨b, o, none⟩ = some (.int .i64 x0.k) ∧ Z.cell? ⟨b, o + 1, none⟩ = some (.int .i64 x0.w) ∧ Z.cell? ⟨b, o + 2, none⟩ = some (.int .i64 x0.o) ∧ Z.cell? ⟨b, o + 3, none⟩ = some (.int .u64 (x0.v : Nat)) ∧ Z.cell? ⟨b, o + 4, none⟩ = some (.int .i64 x0.c) ∧ Z.cell? ⟨b, o + 5, none⟩ = some (.int .i64 x0.l) ∧ Z.cell? ⟨b, o + 6, none⟩ = some (.slice ka0 kn0 kc0) ∧ Z.cell? ⟨gS, 0, none⟩ = some (.slice sa S.cells.length sc) ∧ Z.cell? ⟨gS, 1, none⟩ = some (.bool S.fault)) := Hid.mk (fun Z kz => by
    obtain ⟨e0, e1, e2, e3, e4, e5, e6⟩ := efC_cells (HAE.out.keep kz)
    have s0 : Z.cell? ⟨gS, 0, none⟩ = some (.slice sa S.cells.length sc) := (HAS.out.keep kz).cell 0
    have s1 : Z.cell? ⟨gS, 1, none⟩ = some (.bool S.fault) := (HAS.out.keep kz).cell 1
    have g := HKCL0.out Z (HKW.out.trans kz)
    have g0 := g 0 (by decide)
    have g1 := g 1 (by decide)
    have g2 := g 2 (by decide)
    have g3 := g 3 (by decide)
    have g4 := g 4 (by decide)
    have g5 := g 5 (by decide)
    have g6 := g 6 (by decide)
    simp only [efC, List.getElem?_cons_zero, List.getElem?_cons_succ, Nat.zero_mul, Nat.one_mul, Nat.reduceMul, Nat.add_zero] at g0 g1 g2 g3 g4 g5 g6
    exact ⟨e6, g0, g1, g2, g3, g4, g5, g6, s0, s1⟩)
  clear HKCL0
  go_wp2_with fail
  go_region_held3 (fun w' => w'.cell? ⟨gE, 6, none⟩ = some (.slice (some ⟨b, o, none⟩) 1 vc) ∧ w'.cell? ⟨b, o, none⟩ = some (.int .i64 x0.k) ∧ w'.cell? ⟨b, o + 1, none⟩ = some (.int .i64 x0.w) ∧ w'.cell? ⟨b, o + 2, none⟩ = some (.int .i64 x0.o) ∧ w'.cell? ⟨b, o + 3, none⟩ = some (.int .u64 (x0.v : Nat)) ∧ w'.cell? ⟨b, o + 4, none⟩ = some (.int .i64 x0.c) ∧ w'.cell? ⟨b, o + 5, none⟩ = some (.int .i64 x0.l) ∧ w'.cell? ⟨b, o + 6, none⟩ = some (.slice ka0 kn0 kc0) ∧ w'.cell? ⟨gS, 0, none⟩ = some (.slice sa S.cells.length sc) ∧ w'.cell? ⟨gS, 1, none⟩ = some (.bool S.fault)) (first | exact HSS0.out _ ((Keep.refl W).drew) | exact HSS0.out _ ((Keep.refl W).drew.trans k2)) (first | (go_at_call 36; refine (HKC0.out _ (HKW.out.trans (Keep.refl W).drew)).mono ?_; rintro e w2 ⟨rfl, k2⟩))
  have HKw2 := Hid.mk ((Keep.refl W).drew.trans k2)
  clear k2
  obtain ⟨e0, e1, e2, e3, e4, e5, e6⟩ := efC_cells (HAE.out.keep HKw2.out)
  have s0 : w2.cell? ⟨gS, 0, none⟩ = some (.slice sa S.cells.length sc) := (HAS.out.keep HKw2.out).cell 0
  have kw0 := (HSS0.out w2 HKw2.out).2.2.1
  rcases HFO.out with ho | ho | ho | ho | ho
  · as_aux_lemma =>
      rw [HU.out, if_pos ho] at HR
      simp only [Prod.mk.injEq] at HR
      obtain ⟨rfl, rfl⟩ := HR.out
      have LC := HL0.out ho
      rw [ho] at e2
      clear ho
      go_wp2_with fail
      refine (LC _).mono ?_
      rintro e y ⟨rfl, hy⟩
      subst hy
      go_wp2_with fail
      go_ret2
      exact ⟨rfl, HKW.out.trans HKw2.out⟩
  · as_aux_lemma =>
      rw [HU.out, if_neg (by rw [ho]; decide), if_pos ho] at HR
      simp only [Prod.mk.injEq] at HR
      obtain ⟨rfl, rfl⟩ := HR.out
      have LC := HL1.out ho
      rw [ho] at e2
      clear ho
      go_wp2_with fail
      refine (LC _).mono ?_
      rintro e y ⟨rfl, hy⟩
      subst hy
      go_wp2_with fail
      go_ret2
      exact ⟨rfl, HKW.out.trans HKw2.out⟩
  · as_aux_lemma =>
      rw [HU.out, if_neg (by rw [ho]; decide), if_neg (by rw [ho]; decide), if_pos ho] at HR
      simp only [Prod.mk.injEq] at HR
      obtain ⟨rfl, rfl⟩ := HR.out
      rw [ho] at e2
      clear ho
      go_wp2_with fail
      go_region_held3 (fun w' => w'.cell? ⟨gE, 1, none⟩ = some (.int .i64 f.w) ∧ w'.cell? ⟨gE, 6, none⟩ = some (.slice (some ⟨b, o, none⟩) 1 vc) ∧ w'.cell? ⟨b, o + 1, none⟩ = some (.int .i64 x0.w)) (exact ⟨e1, e6, kw0⟩) (first | (go_at_call 37; refine (HSG.out _).mono ?_; rintro e y ⟨rfl, hy⟩; subst hy) | (go_at_call 39; refine (HL2.out _).mono ?_; rintro e y ⟨rfl, hy⟩; subst hy))
      go_wp2_with fail
      go_ret2
      exact ⟨rfl, (HKW.out.trans HKw2.out).drew⟩
  · as_aux_lemma =>
      rw [HU.out, if_neg (by rw [ho]; decide), if_neg (by rw [ho]; decide), if_neg (by rw [ho]; decide), if_pos ho] at HR
      simp only [Prod.mk.injEq] at HR
      obtain ⟨rfl, rfl⟩ := HR.out
      rw [ho] at e2
      clear ho
      go_wp2_with fail
      go_ret2
      exact ⟨rfl, HKW.out.trans HKw2.out⟩
  · as_aux_lemma =>
      rw [HU.out, if_neg (by rw [ho]; decide), if_neg (by rw [ho]; decide), if_neg (by rw [ho]; decide), if_neg (by rw [ho]; decide)] at HR
      simp only [Prod.mk.injEq] at HR
      obtain ⟨rfl, rfl⟩ := HR.out
      have LC := HL4.out
      rw [ho] at e2
      clear ho
      go_wp2_with fail
      refine (LC _).mono ?_
      rintro e y ⟨rfl, hy⟩
      subst hy
      go_wp2_with fail
      go_ret2
      exact ⟨rfl, HKW.out.trans HKw2.out⟩
end Go.Proofs.Qxb6500772a
