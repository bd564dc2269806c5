/- blast: expr, select. -/
import Derived.Test.Qxb6500772aDg
import Derived.Test.Qxb6500772aTe
import Derived.Test.Qxb6500772aLf
import Derived.Deep.RegionHeld3
namespace Go.Proofs.Qxb6500772a
open Go.RowKit Go.Qm
set_option linter.unusedVariables false
set_option linter.unusedSimpArgs false
attribute [local go_sem ↓] Go.wp_at_zero Go.wp_at_succ
theorem sel_step {x : PS} {v : Int} {C k : Nat} (h : v = (k : Int)) : (x.at (C + k)) = x.at (C + v.toNat) := by rw [h]; rfl
/-- The fold of Select. -/
def selV (x : PS) (v : Int) (C k : Nat) : Nat := if 0 ≤ v ∧ v < (k : Int) then x.at (C + v.toNat) else 0
theorem selV_next (x : PS) (v : Int) (C k : Nat) : selV x v C (k + 1) = if decide (v = (k : Int)) then x.at (C + k) else selV x v C k := by
  unfold selV
  by_cases h : v = (k : Int)
  · subst h
    rw [if_pos (by omega)]
    simp
  · simp only [h, decide_false, Bool.false_eq_true, if_false]
    by_cases h2 : 0 ≤ v ∧ v < (k : Int)
    · rw [if_pos (by omega), if_pos h2]
    · rw [if_neg (by omega), if_neg h2]
set_option maxRecDepth 8000 in
set_option maxHeartbeats 8000000 in
theorem xc_k3 {P : Nat → Prop} {f : EF} {t : EL} (IH : ∀ x ∈ t.toL, XC P x.1 x.2) (hk : f.k = 3) : XC P f t := by
  intro B X w gB cv gc gv G n gF oF gW ty cs cw S vs ls fb kx rows h hF hW hcl hf hr he hwt hwo hl
  have hwk : ((∃ a, t.ws = [a]) ∧ wtCells cw f.c f.l f.w) := by
    have h9 := hwo.2
    rw [hk] at h9
    rcases h9 with ⟨a, h9⟩ | ⟨a, h9⟩ | ⟨a, h9⟩ | ⟨a, h9⟩ | ⟨a, h9⟩ | ⟨a, h9⟩ | ⟨a, h9⟩
    · exact absurd a (by decide)
    · exact absurd a (by decide)
    · exact absurd a (by decide)
    · exact h9
    · exact absurd a (by decide)
    · exact absurd a (by decide)
    · exact absurd a (by decide)
  obtain ⟨wd, hwd⟩ : ∃ wd : Nat, f.w = wd := ⟨f.w.toNat, by have := hwo.1; omega⟩
  have hwd1 : 1 ≤ wd ∧ wd ≤ 64 := by have := hwo.1; omega
  rw [show f.w.toNat = wd by rw [hwd]; rfl]
  obtain ⟨ka, kc, hkx, kx1, kx2⟩ := hr.form
  subst hkx
  unfold maxLen at kx2
  obtain ⟨W, hWd⟩ : ∃ W, W = w.alloc (.cells #[.int .i64 f.k, .int .i64 f.w, .int .i64 f.o, .int .u64 (f.v : Nat), .int .i64 f.c, .int .i64 f.l, .slice ka rows.length kc] 31) := ⟨_, rfl⟩
  have kW : Keep w W := by rw [hWd]; exact (Keep.refl w).alloc _
  have aE : Arr W w.heap.size 31 (EfC f (.slice ka rows.length kc)) := by rw [hWd]; exact Arr.new w 31 _
  have HBW := Hid.mk (h.keep kW)
  have HFW := Hid.mk (hF.keep kW)
  have HKW := Hid.mk kW
  have HAE := Hid.mk aE
  have hgE : ¬ fpC gc gv w.heap.size := fun a => by have := (h.cc.flt a).2; omega
  have HGE := Hid.mk hgE
  have HL := Hid.mk hl
  have HNX := Hid.mk (nX_pos f t)
  have HRW := Hid.mk (hr.step (KP.of kW))
  have HEW := Hid.mk (he.step (KP.of kW))
  have HWT := Hid.mk hwt
  have HWS := Hid.mk hW
  have HT0 := Hid.mk (ST.refl (h.keep kW))
  have HD : Hid (∀ K Z gv' G', ST B X P W gB cv gc gv G n K Z gv' G' → (Z.cell? ⟨gB, 0, none⟩ = some (.pointer (some ⟨gc, 0, none⟩))) ∧ (Z.cell? ⟨w.heap.size, 0, none⟩ = some (.int .i64 f.k)) ∧ (Z.cell? ⟨w.heap.size, 1, none⟩ = some (.int .i64 (wd : Nat))) ∧ (Z.cell? ⟨w.heap.size, 2, none⟩ = some (.int .i64 f.o)) ∧ (Z.cell? ⟨w.heap.size, 3, none⟩ = some (.int .u64 (f.v : Nat))) ∧ (Z.cell? ⟨w.heap.size, 4, none⟩ = some (.int .i64 f.c)) ∧ (Z.cell? ⟨w.heap.size, 5, none⟩ = some (.int .i64 f.l)) ∧ (Z.cell? ⟨w.heap.size, 6, none⟩ = some (.slice ka rows.length kc)) ∧ (Z.cell? ⟨gF, oF, none⟩ = some (.slice (some ⟨gW, 0, none⟩) cw.length cw.length)) ∧ (Z.cell? ⟨gF, oF + 1, none⟩ = some (.int .i64 (fb : Nat)))) := Hid.mk (fun K Z gv' G' s => by
    obtain ⟨e0, e1, e2, e3, e4, e5, e6⟩ := efC_cells (s.own HBW.out HAE.out HGE.out)
    obtain ⟨f0, f1, -⟩ := (s.frm HBW.out HFW.out).cells
    rw [hwd] at e1
    exact ⟨s.bs.cells.1, e0, e1, e2, e3, e4, e5, e6, f0, f1⟩)
  obtain ⟨x0, e0, e1, e2, e3, e4, e5, e6, f0, f1⟩ := HD.out _ _ _ _ HT0.out
  rw [hk] at e0
  simp only [efA]
  have i1 : (1 : Int) ≤ wd := by omega
  have i2 : (wd : Int) ≤ 64 := by omega
  have HOK : Hid (∀ inp, StOK cw (S inp)) := Hid.mk (fun inp => hF.ok inp)
  obtain ⟨⟨a, E⟩, c0, c1, c2, c3⟩ := hwk
  obtain ⟨C, hC⟩ : ∃ C : Nat, f.c = C := ⟨f.c.toNat, by omega⟩
  obtain ⟨L, hL⟩ : ∃ L : Nat, f.l = L := ⟨f.l.toNat, by omega⟩
  have hCL : C + L ≤ cw.length := by omega
  have hL1 : 1 ≤ L := by omega
  have hNX3 : 1 + L + nE t ≤ nX (f, t) := by
    unfold nX nX1
    rw [if_pos ⟨hk, by show 0 < f.l; omega⟩, hL]
    simp
  have HNX3 := Hid.mk hNX3
  have hln : t.toL.length = 1 := by have := ws_len t; rw [E] at this; simpa [EL.len] using this.symm
  have hnE : nE t = nX (t.toL[0]'(by omega)) := by
    rw [nE_sum]
    have h9 : t.toL = [t.toL[0]'(by omega)] := by
      apply List.ext_getElem
      · simp [hln]
      · intro i h1 h2
        rcases (show i = 0 by omega) with rfl <;> rfl
    conv => lhs; rw [h9]
    simp [nEs]
  have hl0 : 0 < t.toL.length := by omega
  have hlr0 : 0 < rows.length := by rw [HEW.out.len]; exact hl0
  obtain ⟨kvv0, kr0, y01, y02, y03, y04⟩ := HEW.out.get 0 hl0 hlr0
  obtain ⟨b0, o0, ha0, hp0, hb0, hc0⟩ := HRW.out.cell hlr0
  have hwi0 := ws_get t 0 hl0
  have hlt0 : ∀ inp, 1 ≤ t.ws.getD 0 0 ∧ t.ws.getD 0 0 ≤ 64 ∧ kv (evL t (S inp)) 0 < 2 ^ kw t.ws 0 := fun inp => evL_lt (HOK.out inp) HWT.out 0 hl0
  rw [E] at hwi0 hlt0
  simp only [List.getD_cons_zero, List.getD_cons_succ, kw] at hwi0 hlt0
  obtain ⟨A0, hA0⟩ : ∃ A : Nat, t.toL[0].1.w = A := ⟨t.toL[0].1.w.toNat, by have := (wtL_mm HWT.out _ (List.getElem_mem hl0)).2.1; omega⟩
  have hA0b : 1 ≤ A0 ∧ A0 ≤ 64 := by have := (wtL_mm HWT.out _ (List.getElem_mem hl0)).2.1; omega
  obtain ⟨ka0, kc0, hkv0, -, -⟩ := y03.form
  have KC0 : Hid (∀ K Z gv' G', ST B X P W gB cv gc gv G n K Z gv' G' → K + 1024 * nX t.toL[0] ≤ 1024 * nX (f, t) → (∀ j < 7, Z.cell? ⟨b0, o0 + 0 * 7 + j, none⟩ = (efC t.toL[0].1 (.slice ka0 kr0.length kc0))[j]?) ∧ Calls Try.prog 33 #[.pointer (some ⟨gB, 0, none⟩), efA t.toL[0].1 (.slice ka0 kr0.length kc0), .pointer (some ⟨gF, oF, none⟩)] Z fun e w' => RVB B X P gB cv gc gv' Z G' n (1024 * nX t.toL[0]) A0 (fun inp => kv (evL t (S inp)) 0) (fun inp => kf (evL t (S inp)) 0) e w') := Hid.mk (fun K Z gv' G' s hK => by
    subst hkv0
    refine ⟨fun j hj => ?_, ?_⟩
    · have h1 := hc0 j hj
      rw [y01] at h1
      rw [(s.kp HBW.out).cell hp0 hb0]
      exact h1
    · have h9 := IH t.toL[0] (List.getElem_mem hl0) B X Z gB cv gc gv' G' n gF oF gW ty cs cw S vs ls fb _ kr0 s.bs (s.frm HBW.out HFW.out) HWS.out hcl y02 (y03.step (s.kp HBW.out)) (y04.step (s.kp HBW.out)) (wtL_mm HWT.out _ (List.getElem_mem hl0)).1 (wtL_mm HWT.out _ (List.getElem_mem hl0)).2 (by have := HL.out; have := s.len; show G'.length + 1024 * nX t.toL[0] ≤ 600000000; omega)
      rw [show t.toL[0].1.w.toNat = A0 by rw [hA0]; rfl] at h9
      have e9 : ∀ inp, evOne t.toL[0].1 (evL t.toL[0].2 (S inp)) t.toL[0].2.ws (S inp) = (evL t (S inp)).getD 0 (0, false) := fun inp => (evL_get t (S inp) 0 hl0).symm
      simp only [e9] at h9
      exact h9)
  have HNE := Hid.mk hnE
  clear hc0 hp0 hb0 y01 y02 y03 y04 hkv0
  generalize nX (t.toL[0]'hl0) = N0 at *
  generalize (t.toL[0]'hl0).1 = x0 at *
  subst ha0
  have hrn : (rows.length : Int) = 1 := by have := HEW.out.len; unfold EL.len at this; omega
  have HRN := Hid.mk hrn
  clear hlr0
  have HR : Hid (∀ inp, evOne f (evL t (S inp)) t.ws (S inp) = (selV (S inp) (sgn (kv (evL t (S inp)) 0) A0) C L, kf (evL t (S inp)) 0 || decide (sgn (kv (evL t (S inp)) 0) A0 < 0 ∨ (L : Int) ≤ sgn (kv (evL t (S inp)) 0) A0))) := Hid.mk (fun inp => by
    have h1 : a.toNat = A0 := by omega
    simp only [evOne, hk, E, kw, List.getD_cons_zero, h1, hL, hC]
    rw [if_neg (by decide), if_neg (by decide), if_neg (by decide)]
    simp only [if_true]
    generalize sgn (kv (evL t (S inp)) 0) A0 = v
    unfold selV PS.at
    by_cases h2 : v < 0 ∨ (L : Int) ≤ v
    · rw [if_pos h2, if_neg (by omega), decide_eq_true h2]; simp
    · rw [if_neg h2, if_pos (by omega), decide_eq_false h2]
      simp only [Bool.or_false]
      rw [show ((C : Int) + v).toNat = C + v.toNat by omega])
  have HCW : Hid (∀ k, k < L → (cw.getD (C + k) 0).toNat = wd) := Hid.mk (fun k hk9 => by
    have h9 := c3 k (by omega)
    rw [show f.c.toNat + k = C + k by rw [hC]; rfl, hwd] at h9
    rw [h9]; rfl)
  have HHC := Hid.mk hC
  have HHL := Hid.mk hL
  have HCL := Hid.mk hCL
  have i7 : (L : Int) ≤ 1000000 := by omega
  have i8 : (C : Int) ≤ 1000000 := by omega
  have HHK := Hid.mk hk
  have HHW := Hid.mk hwd
  clear h hF hl hr he hwt hwo kW aE hgE hW hf hk hwd IH E hA0 hwi0 hlt0 c0 c1 c2 c3 hC hL hCL hL1 hNX3
  go_enter Try.func33, Try.ntmps33
  go_upto_region 1 with fail
  rw [← hWd]
  have HKE : Hid (Stp (fpC gc gv) (fpC gc gv) w W) := Hid.mk (Stp.keep HKW.out)
  generalize w.heap.size = gE at *
  obtain ⟨w0, gv0, G0, rfl, rfl, rfl⟩ : ∃ (w0 : World) (gv0 : Value) (G0 : List Gate), w0 = W ∧ gv0 = gv ∧ G0 = G := ⟨_, _, _, rfl, rfl, rfl⟩
  clear hWd
  obtain ⟨hcl9, hcall9⟩ := KC0.out _ _ _ _ HT0.out (by have := HNX.out; have := HNE.out; omega)
  have g0 := hcl9 0 (by decide)
  have g1 := hcl9 1 (by decide)
  have g2 := hcl9 2 (by decide)
  have g3 := hcl9 3 (by decide)
  have g4 := hcl9 4 (by decide)
  have g5 := hcl9 5 (by decide)
  have g6 := hcl9 6 (by decide)
  simp only [efC, List.getElem?_cons_zero, List.getElem?_cons_succ, Nat.zero_mul, Nat.one_mul, Nat.reduceMul, Nat.add_zero] at g0 g1 g2 g3 g4 g5 g6
  have HCALL := Hid.mk hcall9
  simp only [efA] at HCALL
  clear hcl9 hcall9
  go_wp2_with fail
  refine HCALL.out.mono ?_
  rintro e w2 ⟨gv2, G2, l2, pa2, pc2, fb2, rfl, b9, s9, x9, wo9, wv9, bt9⟩
  have HS2 : Hid (ST B X P w0 gB cv gc gv0 G0 n (1024 * N0) w2 gv2 G2) := Hid.mk ⟨b9, s9, x9⟩
  have HT2 := Hid.mk (HT0.out.trans HS2.out)
  have HWk0 := Hid.mk wo9
  have HVk0 := Hid.mk wv9
  have HTk0 := Hid.mk bt9
  clear b9 s9 x9 wo9 wv9 bt9 g0 g1 g2 g3 g4 g5 g6 HCALL x0 e0 e1 e2 e3 e4 e5 e6 f0 f1
  obtain ⟨x0, e0, e1, e2, e3, e4, e5, e6, f0, f1⟩ := HD.out _ _ _ _ HT2.out
  rw [HHK.out] at e0
  rw [HHL.out] at e5
  have H76 := Hid.mk (hits_c HT2.out.bs HWk0.out HVk0.out hA0b.1 hA0b.2 L (by omega) (by have := HL.out; have := HT2.out.len; have := HNX3.out; have := HNE.out; omega))
  go_wp2_with fail
  refine H76.out.mono ?_
  rintro e w3 ⟨gv3, G3, hv, hs, nb, rfl, c9, s9, x9, wo9, hln9, hb9, bt9⟩
  obtain ⟨ha, hc, hhv, -, -⟩ := wo9.form
  rw [hln9] at hhv
  subst hhv
  have HS3 : Hid (ST B X P w2 gB cv gc gv2 G2 n (140 * L + 1) w3 gv3 G3) := Hid.mk ⟨HT2.out.bs.step c9 s9 x9, s9, x9⟩
  have HT3 := Hid.mk (HT2.out.trans HS3.out)
  have HWH := Hid.mk wo9
  have HLH := Hid.mk hln9
  have HBH := Hid.mk hb9
  have HBN := Hid.mk bt9
  clear c9 s9 x9 wo9 hln9 hb9 bt9 H76 x0 e0 e1 e2 e3 e4 e5 e6 f0 f1
  obtain ⟨x0, e0, e1, e2, e3, e4, e5, e6, f0, f1⟩ := HD.out _ _ _ _ HT3.out
  have sd : w3.drew.cell? ⟨gB, 0, none⟩ = some (.pointer (some ⟨gc, 0, none⟩)) ∧ w3.drew.cell? ⟨gE, 1, none⟩ = some (.int .i64 (wd : Nat)) := ⟨x0, e1⟩
  have H66 := Hid.mk (const0_k HT3.out.drew.bs wd hwd1.1 hwd1.2 (by have := HL.out; have := HT3.out.len; have := HNX3.out; have := HNE.out; omega))
  clear x0 e0 e1 e2 e3 e4 e5 e6 f0 f1
  go_wp2_with fail
  go_region_held3 (fun w' => w'.cell? ⟨gB, 0, none⟩ = some (.pointer (some ⟨gc, 0, none⟩)) ∧ w'.cell? ⟨gE, 1, none⟩ = some (.int .i64 (wd : Nat))) (with_reducible first | exact sd | exact sd4)
    (first
      | (go_at_call 66; refine H66.out.mono ?_; rintro e w4 ⟨gv4, G4, l4, va4, vc4, rfl, b4, s4, x4, wo4, wv4⟩; have HS4 : Hid (ST B X P w3.drew gB cv gc gv3 G3 n 64 w4 gv4 G4) := Hid.mk ⟨b4, s4, x4⟩; have HT4 := Hid.mk (HT3.out.drew.trans HS4.out); obtain ⟨q0, q1, q2, q3, q4, q5, q6, q7, q8, q9⟩ := HD.out _ _ _ _ HT4.out; have sd4 : w4.cell? ⟨gB, 0, none⟩ = some (.pointer (some ⟨gc, 0, none⟩)) ∧ w4.cell? ⟨gE, 1, none⟩ = some (.int .i64 (wd : Nat)) := ⟨q0, q2⟩; have HW4 := Hid.mk wo4; have HV4 := Hid.mk wv4; clear b4 s4 x4 wo4 wv4 q0 q1 q2 q3 q4 q5 q6 q7 q8 q9))
  rename_i hHd
  clear hHd sd sd4 H66
  have HS34 : Hid (ST B X P w3 gB cv gc gv3 G3 n 64 w4 gv4 G4) := Hid.mk (((ST.keep HT3.out.bs (Keep.refl w3).drew).trans HS4.out).mono (by omega))
  have HWH4 := Hid.mk (HS34.out.wo HWH.out)
  go_wp2_with fail
  refine wp_loop_frm 241 (fun gk g wr => ∃ (k : Nat) (gv5 : Value) (G5 : List Gate) (l5 : List Nat) (va5 : Option Addr) (vc5 : Nat), k + gk = L ∧ g 102 = .int .i64 k ∧ g 12 = .slice va5 wd vc5 ∧ ST B X P w4 gB cv gc gv4 G4 n (448 * k) wr gv5 G5 ∧ WO (fpX gc gv5 X) wr (.slice va5 wd vc5) l5 ∧ Wv G5 l5 wd (fun inp => selV (S inp) (sgn (kv (evL t (S inp)) 0) A0) C k) ∧ g 0 = .pointer (some ⟨gB, 0, none⟩) ∧ g 2 = .pointer (some ⟨gF, oF, none⟩) ∧ g 4 = .pointer (some ⟨gE, 0, none⟩) ∧ g 9 = .int .i64 (fb2 : Nat) ∧ g 10 = .slice ha L hc ∧ g 11 = .int .i64 (nb : Nat) ∧ g 101 = .int .i64 (L : Nat)) L (by rfl) rfl ?_ ?_
  · exact ⟨0, gv4, G4, l4, va4, vc4, by omega, rfl, rfl, (ST.refl HT4.out.bs).mono (by omega), HW4.out, HV4.out.congr (fun inp => by unfold selV; rw [if_neg (by omega)]), rfl, rfl, rfl, rfl, rfl, rfl, rfl⟩
  · intro gk g wr hrel J K hJ hK
    obtain ⟨k, gv5, G5, l5, va5, vc5, hkk, g102, g12, hst, hwo5, hwv5, g0, g2, g4, g9, g10, g11, g101⟩ := hrel
    rw [show frm 241 g = ⟨#[g 0, g 1, g 2, g 3, g 4, g 5, g 6, g 7, g 8, g 9, g 10, g 11, g 12, g 13, g 14, g 15, g 16, g 17, g 18, g 19, g 20, g 21, g 22, g 23, g 24, g 25, g 26, g 27, g 28, g 29, g 30, g 31, g 32, g 33, g 34, g 35, g 36, g 37, g 38, g 39, g 40, g 41, g 42, g 43, g 44, g 45, g 46, g 47, g 48, g 49, g 50, g 51, g 52, g 53, g 54, g 55, g 56, g 57, g 58, g 59, g 60, g 61, g 62, g 63, g 64, g 65, g 66, g 67, g 68, g 69, g 70, g 71, g 72, g 73, g 74, g 75, g 76, g 77, g 78, g 79, g 80, g 81, g 82, g 83, g 84, g 85, g 86, g 87, g 88, g 89, g 90, g 91, g 92, g 93, g 94, g 95, g 96, g 97, g 98, g 99, g 100, g 101, g 102, g 103, g 104, g 105, g 106, g 107, g 108, g 109, g 110, g 111, g 112, g 113, g 114, g 115, g 116, g 117, g 118, g 119, g 120, g 121, g 122, g 123, g 124, g 125, g 126, g 127, g 128, g 129, g 130, g 131, g 132, g 133, g 134, g 135, g 136, g 137, g 138, g 139, g 140, g 141, g 142, g 143, g 144, g 145, g 146, g 147, g 148, g 149, g 150, g 151, g 152, g 153, g 154, g 155, g 156, g 157, g 158, g 159, g 160, g 161, g 162, g 163, g 164, g 165, g 166, g 167, g 168, g 169, g 170, g 171, g 172, g 173, g 174, g 175, g 176, g 177, g 178, g 179, g 180, g 181, g 182, g 183, g 184, g 185, g 186, g 187, g 188, g 189, g 190, g 191, g 192, g 193, g 194, g 195, g 196, g 197, g 198, g 199, g 200, g 201, g 202, g 203, g 204, g 205, g 206, g 207, g 208, g 209, g 210, g 211, g 212, g 213, g 214, g 215, g 216, g 217, g 218, g 219, g 220, g 221, g 222, g 223, g 224, g 225, g 226, g 227, g 228, g 229, g 230, g 231, g 232, g 233, g 234, g 235, g 236, g 237, g 238, g 239, g 240], []⟩ from rfl, g0, g2, g4, g9, g10, g11, g12, g101, g102]
    clear g0 g2 g4 g9 g10 g11 g12 g101 g102
    have HKK := Hid.mk hkk
    have HS5 := Hid.mk hst
    have HT5 := Hid.mk (HT4.out.trans hst)
    have HW5 := Hid.mk hwo5
    have HV5 := Hid.mk hwv5
    have hsz : G5.length + 1000 ≤ 650000000 := by have := HL.out; have := (HT4.out.trans hst).len; have := HNX3.out; have := HNE.out; omega
    have HSZ := Hid.mk hsz
    clear hst hwo5 hwv5 hsz
    by_cases hlt : k < L
    · have j1 : (k : Int) < L := by omega
      have j2 : (0 : Int) ≤ k := by omega
      have hkl : k < hs.length := by have := HLH.out; omega
      have HWH5 := Hid.mk (HS5.out.wo HWH4.out)
      obtain ⟨hb, ho, hha, hcl⟩ := HWH5.out.cell hkl
      have HBK : Hid (Bt G5 hs[k] (fun inp => decide (sgn (kv (evL t (S inp)) 0) A0 = (k : Int)))) := Hid.mk (HS5.out.bt (HS34.out.bt (HBH.out k hkl)))
      have HCK : Hid (∀ K Z gv' G', ST B X P wr gB cv gc gv5 G5 n K Z gv' G' → Z.cell? ⟨hb, ho + k, none⟩ = some (.int .i64 (hs[k] : Nat))) := Hid.mk (fun K Z gv' G' s => by
        obtain ⟨b9, o9, h8, h9⟩ := (s.wo HWH5.out).cell hkl
        rw [hha] at h8
        obtain ⟨rfl, rfl⟩ : hb = b9 ∧ ho = o9 := by simpa using h8
        exact h9)
      obtain ⟨x0, e0, e1, e2, e3, e4, e5, e6, f0, f1⟩ := HD.out _ _ _ _ HT5.out
      rw [HHC.out] at e4
      have hCk : C + k < cw.length := by have := HCL.out; omega
      obtain ⟨u, lu, hu1, hu2, hu3, hu4⟩ := (HT5.out.frm HBW.out HFW.out).word hCk
      rw [HCW.out k hlt] at hu4
      obtain ⟨ua, uc, huu, -, -⟩ := hu3.sh hu4
      subst huu
      subst hha
      have HU3 := Hid.mk hu3
      have HU4 := Hid.mk hu4
      have HUC : Hid (∀ K Z gv' G', ST B X P wr gB cv gc gv5 G5 n K Z gv' G' → Z.cell? ⟨gW, C + k, none⟩ = some (.slice ua wd uc)) := Hid.mk (fun K Z gv' G' s => by
        have a1 := (HT5.out.frm HBW.out HFW.out).aw.cell (C + k)
        have a2 := ((HT5.out.trans s).frm HBW.out HFW.out).aw.cell (C + k)
        rw [a2, ← a1]; exact hu1)
      generalize hs[k] = hk0 at *
      have sd : wr.drew.cell? ⟨gB, 0, none⟩ = some (.pointer (some ⟨gc, 0, none⟩)) ∧ wr.drew.cell? ⟨hb, ho + k, none⟩ = some (.int .i64 (hk0 : Nat)) := ⟨x0, hcl⟩
      have m1 : (C : Int) + k < cw.length := by omega
      have m2 : (0 : Int) ≤ (C : Int) + k := by omega
      have mw : IntKind.i64.wrap ((C : Int) + k) = (C : Int) + k := by rw [IntKind.wrap_i64]; omega
      have mt : ((C : Int) + k).toNat = C + k := by omega
      clear hkl hCk hu3 hu4
      by_cases z : hk0 = 0
      · have z1 : ((hk0 : Int) != 0) = false := by simp; omega
        have HZ := Hid.mk z
        clear z
        go_wp2_with fail
        go_region_held3 (fun w' => w'.cell? ⟨gB, 0, none⟩ = some (.pointer (some ⟨gc, 0, none⟩)) ∧ w'.cell? ⟨hb, ho + k, none⟩ = some (.int .i64 (hk0 : Nat))) (with_reducible first | exact sd) (first | (go_at_call 75; refine (false_c gc _).mono ?_; rintro e y9 ⟨rfl, hy9⟩; subst hy9))
        rename_i hHd
        clear hHd
        go_wp2_with fail
        refine Handed.intro (L - (k + 1)) (by have := HKK.out; omega) ?_
        go_step
        refine InvF.of (by rfl) rfl ⟨k + 1, gv5, G5, l5, va5, vc5, by have := HKK.out; omega, by first | rfl | (show Value.int _ _ = _; go_num), rfl, HS5.out.drew.mono (by omega), HW5.out.stepX (Stp.keep (Keep.refl _).drew), HV5.out.congr (fun inp => ?_), rfl, rfl, rfl, rfl, rfl, rfl, rfl⟩
        have h9 := HBK.out
        rw [HZ.out] at h9
        have h8 := h9.uniq HT5.out.bs.wf.2 inp
        rw [selV_next, h8]; rfl
      · have z1 : ((hk0 : Int) != 0) = true := by simp; omega
        clear z
        go_wp2_with fail
        go_region_held3 (fun w' => w'.cell? ⟨gB, 0, none⟩ = some (.pointer (some ⟨gc, 0, none⟩)) ∧ w'.cell? ⟨hb, ho + k, none⟩ = some (.int .i64 (hk0 : Nat))) (with_reducible first | exact sd) (first | (go_at_call 75; refine (false_c gc _).mono ?_; rintro e y9 ⟨rfl, hy9⟩; subst hy9))
        rename_i hHd
        clear hHd
        have HSD := Hid.mk (ST.keep HT5.out.bs (Keep.refl wr).drew)
        obtain ⟨W5, hW5⟩ : ∃ W5, W5 = wr.drew := ⟨_, rfl⟩
        rw [← hW5] at HSD ⊢
        have HTD := Hid.mk (HT5.out.trans HSD.out)
        obtain ⟨x0, e0, e1, e2, e3, e4, e5, e6, f0, f1⟩ := HD.out _ _ _ _ HTD.out
        rw [HHC.out] at e4
        have hc5 := HCK.out _ _ _ _ HSD.out
        have hu5 := HUC.out _ _ _ _ HSD.out
        clear sd hW5
        have sd : W5.drew.cell? ⟨hb, ho + k, none⟩ = some (.int .i64 (hk0 : Nat)) ∧ W5.drew.cell? ⟨gF, oF, none⟩ = some (.slice (some ⟨gW, 0, none⟩) cw.length cw.length) ∧ W5.drew.cell? ⟨gE, 4, none⟩ = some (.int .i64 (C : Nat)) ∧ W5.drew.cell? ⟨gW, C + k, none⟩ = some (.slice ua wd uc) := ⟨hc5, f0, e4, hu5⟩
        have H77 := Hid.mk (mux_k (HTD.out.drew).bs (HSD.out.bt HBK.out) ((HSD.out.drew).wo HU3.out) (HSD.out.wv HU4.out) ((HSD.out.drew).wo HW5.out) (HSD.out.wv HV5.out) hwd1.2 (by have := HSZ.out; omega))
        clear x0 e0 e1 e2 e3 e5 e6 f1
        go_wp2_with fail
        go_region_held3 (fun w' => w'.cell? ⟨hb, ho + k, none⟩ = some (.int .i64 (hk0 : Nat)) ∧ w'.cell? ⟨gF, oF, none⟩ = some (.slice (some ⟨gW, 0, none⟩) cw.length cw.length) ∧ w'.cell? ⟨gE, 4, none⟩ = some (.int .i64 (C : Nat)) ∧ w'.cell? ⟨gW, C + k, none⟩ = some (.slice ua wd uc)) (with_reducible first | exact sd | exact sd6)
          (first
            | (go_at_call 77; refine H77.out.mono ?_; rintro e w6 ⟨gv6, G6, l6, va6, vc6, rfl, b6, s6, x6, wo6, wv6⟩; have HS6 : Hid (ST B X P W5.drew gB cv gc gv5 G5 n 448 w6 gv6 G6) := Hid.mk ⟨b6, s6, x6⟩; have HSR := Hid.mk (HSD.out.drew.trans HS6.out); obtain ⟨q0, q1, q2, q3, q4, q5, q6, q7, q8, q9⟩ := HD.out _ _ _ _ (HT5.out.trans HSR.out); rw [HHC.out] at q5; have sd6 : w6.cell? ⟨hb, ho + k, none⟩ = some (.int .i64 (hk0 : Nat)) ∧ w6.cell? ⟨gF, oF, none⟩ = some (.slice (some ⟨gW, 0, none⟩) cw.length cw.length) ∧ w6.cell? ⟨gE, 4, none⟩ = some (.int .i64 (C : Nat)) ∧ w6.cell? ⟨gW, C + k, none⟩ = some (.slice ua wd uc) := ⟨HCK.out _ _ _ _ HSR.out, q8, q5, HUC.out _ _ _ _ HSR.out⟩; have HW6 := Hid.mk wo6; have HV6 := Hid.mk wv6; clear b6 s6 x6 wo6 wv6 q0 q1 q2 q3 q4 q5 q6 q7 q8 q9))
        rename_i hHd
        clear hHd sd sd6
        go_wp2_with fail
        refine Handed.intro (L - (k + 1)) (by have := HKK.out; omega) ?_
        go_step
        refine InvF.of (by rfl) rfl ⟨k + 1, gv6, G6, l6, va6, vc6, by have := HKK.out; omega, by first | rfl | (show Value.int _ _ = _; go_num), rfl, (HS5.out.trans HSR.out).mono (by omega), HW6.out, HV6.out.congr (fun inp => ?_), rfl, rfl, rfl, rfl, rfl, rfl, rfl⟩
        rw [selV_next]
    · have j1 : ¬ (k : Int) < L := by omega
      obtain rfl : k = L := by have := HKK.out; omega
      go_wp2_with fail
      refine (or_k HT5.out.bs (HS5.out.bt (HS34.out.bt (HS3.out.bt HTk0.out))) (HS5.out.bt (HS34.out.bt HBN.out)) (by have := HSZ.out; omega)).mono ?_
      rintro e w7 ⟨gv7, G7, b7, rfl, b9, s9, x9, bt9⟩
      have HS7 : Hid (ST B X P wr gB cv gc gv5 G5 n 4 w7 gv7 G7) := Hid.mk ⟨b9, s9, x9⟩
      have HT7 := Hid.mk (HT5.out.trans HS7.out)
      have HB7 := Hid.mk bt9
      clear b9 s9 x9 bt9
      go_wp2_with fail
      go_ret2
      exact ⟨gv7, G7, l5, _, _, _, rfl, HT7.out.bs, HKE.out.trans HT7.out.st, HT7.out.ex.mono (by have := HNX3.out; have := HNE.out; omega), HS7.out.wo HW5.out, (HS7.out.wv HV5.out).congr (fun inp => by rw [HR.out]), HB7.out.congr (fun inp => by rw [HR.out])⟩
end Go.Proofs.Qxb6500772a
