/- blast: expr, ite. -/
import Derived.Test.Qxb6500772aDg
import Derived.Test.Qxb6500772aTe
import Derived.Deep.RegionHeld3
namespace Go.Proofs.Qxb6500772a
open Go.RowKit Go.Qm
set_option linter.unusedVariables false
set_option linter.unusedSimpArgs false
attribute [local go_sem ↓] Go.wp_at_zero Go.wp_at_succ
set_option maxRecDepth 8000 in
set_option maxHeartbeats 8000000 in
theorem xc_k6 {P : Nat → Prop} {f : EF} {t : EL} (IH : ∀ x ∈ t.toL, XC P x.1 x.2) (hk : f.k = 6) : XC P f t := by
  intro B X w gB cv gc gv G n gF oF gW ty cs cw S vs ls fb kx rows h hF hW hcl hf hr he hwt hwo hl
  have hwk : (t.ws = [1, f.w, f.w]) := by
    have h9 := hwo.2
    rw [hk] at h9
    rcases h9 with ⟨a, h9⟩ | ⟨a, h9⟩ | ⟨a, h9⟩ | ⟨a, h9⟩ | ⟨a, h9⟩ | ⟨a, h9⟩ | ⟨a, h9⟩
    · exact absurd a (by decide)
    · exact absurd a (by decide)
    · exact absurd a (by decide)
    · exact absurd a (by decide)
    · exact absurd a (by decide)
    · exact absurd a (by decide)
    · exact h9
  obtain ⟨wd, hwd⟩ : ∃ wd : Nat, f.w = wd := ⟨f.w.toNat, by have := hwo.1; omega⟩
  have hwd1 : 1 ≤ wd ∧ wd ≤ 64 := by have := hwo.1; omega
  rw [show f.w.toNat = wd by rw [hwd]; rfl]
  obtain ⟨ka, kc, hkx, kx1, kx2⟩ := hr.form
  subst hkx
  unfold maxLen at kx2
  obtain ⟨W, hWd⟩ : ∃ W, W = w.alloc (.cells #[.int .i64 f.k, .int .i64 f.w, .int .i64 f.o, .int .u64 (f.v : Nat), .int .i64 f.c, .int .i64 f.l, .slice ka rows.length kc] 31) := ⟨_, rfl⟩
  have kW : Keep w W := by rw [hWd]; exact (Keep.refl w).alloc _
  have aE : Arr W w.heap.size 31 (EfC f (.slice ka rows.length kc)) := by rw [hWd]; exact Arr.new w 31 _
  have HBW := Hid.mk (h.keep kW)
  have HFW := Hid.mk (hF.keep kW)
  have HKW := Hid.mk kW
  have HAE := Hid.mk aE
  have hgE : ¬ fpC gc gv w.heap.size := fun a => by have := (h.cc.flt a).2; omega
  have HGE := Hid.mk hgE
  have HL := Hid.mk hl
  have HNX := Hid.mk (nX_pos f t)
  have HRW := Hid.mk (hr.step (KP.of kW))
  have HEW := Hid.mk (he.step (KP.of kW))
  have HWT := Hid.mk hwt
  have HWS := Hid.mk hW
  have HT0 := Hid.mk (ST.refl (h.keep kW))
  have HD : Hid (∀ K Z gv' G', ST B X P W gB cv gc gv G n K Z gv' G' → (Z.cell? ⟨gB, 0, none⟩ = some (.pointer (some ⟨gc, 0, none⟩))) ∧ (Z.cell? ⟨w.heap.size, 0, none⟩ = some (.int .i64 f.k)) ∧ (Z.cell? ⟨w.heap.size, 1, none⟩ = some (.int .i64 (wd : Nat))) ∧ (Z.cell? ⟨w.heap.size, 2, none⟩ = some (.int .i64 f.o)) ∧ (Z.cell? ⟨w.heap.size, 3, none⟩ = some (.int .u64 (f.v : Nat))) ∧ (Z.cell? ⟨w.heap.size, 4, none⟩ = some (.int .i64 f.c)) ∧ (Z.cell? ⟨w.heap.size, 5, none⟩ = some (.int .i64 f.l)) ∧ (Z.cell? ⟨w.heap.size, 6, none⟩ = some (.slice ka rows.length kc)) ∧ (Z.cell? ⟨gF, oF, none⟩ = some (.slice (some ⟨gW, 0, none⟩) cw.length cw.length)) ∧ (Z.cell? ⟨gF, oF + 1, none⟩ = some (.int .i64 (fb : Nat)))) := Hid.mk (fun K Z gv' G' s => by
    obtain ⟨e0, e1, e2, e3, e4, e5, e6⟩ := efC_cells (s.own HBW.out HAE.out HGE.out)
    obtain ⟨f0, f1, -⟩ := (s.frm HBW.out HFW.out).cells
    rw [hwd] at e1
    exact ⟨s.bs.cells.1, e0, e1, e2, e3, e4, e5, e6, f0, f1⟩)
  obtain ⟨x0, e0, e1, e2, e3, e4, e5, e6, f0, f1⟩ := HD.out _ _ _ _ HT0.out
  rw [hk] at e0
  simp only [efA]
  have i1 : (1 : Int) ≤ wd := by omega
  have i2 : (wd : Int) ≤ 64 := by omega
  have HOK : Hid (∀ inp, StOK cw (S inp)) := Hid.mk (fun inp => hF.ok inp)
  have E := hwk
  have hln : t.toL.length = 3 := by have := ws_len t; rw [E] at this; simpa [EL.len] using this.symm
  have hnE : nE t = nX (t.toL[0]'(by omega)) + nX (t.toL[1]'(by omega)) + nX (t.toL[2]'(by omega)) := by
    rw [nE_sum]
    have h9 : t.toL = [t.toL[0]'(by omega), t.toL[1]'(by omega), t.toL[2]'(by omega)] := by
      apply List.ext_getElem
      · simp [hln]
      · intro i h1 h2
        rcases (show i = 0 ∨ i = 1 ∨ i = 2 by omega) with rfl | rfl | rfl <;> rfl
    conv => lhs; rw [h9]
    simp [nEs]; omega
  have hl0 : 0 < t.toL.length := by omega
  have hlr0 : 0 < rows.length := by rw [HEW.out.len]; exact hl0
  obtain ⟨kvv0, kr0, y01, y02, y03, y04⟩ := HEW.out.get 0 hl0 hlr0
  obtain ⟨b0, o0, ha0, hp0, hb0, hc0⟩ := HRW.out.cell hlr0
  have hwi0 := ws_get t 0 hl0
  have hlt0 : ∀ inp, 1 ≤ t.ws.getD 0 0 ∧ t.ws.getD 0 0 ≤ 64 ∧ kv (evL t (S inp)) 0 < 2 ^ kw t.ws 0 := fun inp => evL_lt (HOK.out inp) HWT.out 0 hl0
  rw [E] at hwi0 hlt0
  simp only [List.getD_cons_zero, List.getD_cons_succ, kw] at hwi0 hlt0
  obtain ⟨A0, hA0⟩ : ∃ A : Nat, t.toL[0].1.w = A := ⟨t.toL[0].1.w.toNat, by have := (wtL_mm HWT.out _ (List.getElem_mem hl0)).2.1; omega⟩
  have hA0b : 1 ≤ A0 ∧ A0 ≤ 64 := by have := (wtL_mm HWT.out _ (List.getElem_mem hl0)).2.1; omega
  obtain ⟨ka0, kc0, hkv0, -, -⟩ := y03.form
  have KC0 : Hid (∀ K Z gv' G', ST B X P W gB cv gc gv G n K Z gv' G' → K + 1024 * nX t.toL[0] ≤ 1024 * nX (f, t) → (∀ j < 7, Z.cell? ⟨b0, o0 + 0 * 7 + j, none⟩ = (efC t.toL[0].1 (.slice ka0 kr0.length kc0))[j]?) ∧ Calls Try.prog 33 #[.pointer (some ⟨gB, 0, none⟩), efA t.toL[0].1 (.slice ka0 kr0.length kc0), .pointer (some ⟨gF, oF, none⟩)] Z fun e w' => RVB B X P gB cv gc gv' Z G' n (1024 * nX t.toL[0]) A0 (fun inp => kv (evL t (S inp)) 0) (fun inp => kf (evL t (S inp)) 0) e w') := Hid.mk (fun K Z gv' G' s hK => by
    subst hkv0
    refine ⟨fun j hj => ?_, ?_⟩
    · have h1 := hc0 j hj
      rw [y01] at h1
      rw [(s.kp HBW.out).cell hp0 hb0]
      exact h1
    · have h9 := IH t.toL[0] (List.getElem_mem hl0) B X Z gB cv gc gv' G' n gF oF gW ty cs cw S vs ls fb _ kr0 s.bs (s.frm HBW.out HFW.out) HWS.out hcl y02 (y03.step (s.kp HBW.out)) (y04.step (s.kp HBW.out)) (wtL_mm HWT.out _ (List.getElem_mem hl0)).1 (wtL_mm HWT.out _ (List.getElem_mem hl0)).2 (by have := HL.out; have := s.len; show G'.length + 1024 * nX t.toL[0] ≤ 600000000; omega)
      rw [show t.toL[0].1.w.toNat = A0 by rw [hA0]; rfl] at h9
      have e9 : ∀ inp, evOne t.toL[0].1 (evL t.toL[0].2 (S inp)) t.toL[0].2.ws (S inp) = (evL t (S inp)).getD 0 (0, false) := fun inp => (evL_get t (S inp) 0 hl0).symm
      simp only [e9] at h9
      exact h9)
  have hl1 : 1 < t.toL.length := by omega
  have hlr1 : 1 < rows.length := by rw [HEW.out.len]; exact hl1
  obtain ⟨kvv1, kr1, y11, y12, y13, y14⟩ := HEW.out.get 1 hl1 hlr1
  obtain ⟨b1, o1, ha1, hp1, hb1, hc1⟩ := HRW.out.cell hlr1
  have hwi1 := ws_get t 1 hl1
  have hlt1 : ∀ inp, 1 ≤ t.ws.getD 1 0 ∧ t.ws.getD 1 0 ≤ 64 ∧ kv (evL t (S inp)) 1 < 2 ^ kw t.ws 1 := fun inp => evL_lt (HOK.out inp) HWT.out 1 hl1
  rw [E] at hwi1 hlt1
  simp only [List.getD_cons_zero, List.getD_cons_succ, kw] at hwi1 hlt1
  obtain ⟨A1, hA1⟩ : ∃ A : Nat, t.toL[1].1.w = A := ⟨t.toL[1].1.w.toNat, by have := (wtL_mm HWT.out _ (List.getElem_mem hl1)).2.1; omega⟩
  have hA1b : 1 ≤ A1 ∧ A1 ≤ 64 := by have := (wtL_mm HWT.out _ (List.getElem_mem hl1)).2.1; omega
  obtain ⟨ka1, kc1, hkv1, -, -⟩ := y13.form
  have KC1 : Hid (∀ K Z gv' G', ST B X P W gB cv gc gv G n K Z gv' G' → K + 1024 * nX t.toL[1] ≤ 1024 * nX (f, t) → (∀ j < 7, Z.cell? ⟨b1, o1 + 1 * 7 + j, none⟩ = (efC t.toL[1].1 (.slice ka1 kr1.length kc1))[j]?) ∧ Calls Try.prog 33 #[.pointer (some ⟨gB, 0, none⟩), efA t.toL[1].1 (.slice ka1 kr1.length kc1), .pointer (some ⟨gF, oF, none⟩)] Z fun e w' => RVB B X P gB cv gc gv' Z G' n (1024 * nX t.toL[1]) A1 (fun inp => kv (evL t (S inp)) 1) (fun inp => kf (evL t (S inp)) 1) e w') := Hid.mk (fun K Z gv' G' s hK => by
    subst hkv1
    refine ⟨fun j hj => ?_, ?_⟩
    · have h1 := hc1 j hj
      rw [y11] at h1
      rw [(s.kp HBW.out).cell hp1 hb1]
      exact h1
    · have h9 := IH t.toL[1] (List.getElem_mem hl1) B X Z gB cv gc gv' G' n gF oF gW ty cs cw S vs ls fb _ kr1 s.bs (s.frm HBW.out HFW.out) HWS.out hcl y12 (y13.step (s.kp HBW.out)) (y14.step (s.kp HBW.out)) (wtL_mm HWT.out _ (List.getElem_mem hl1)).1 (wtL_mm HWT.out _ (List.getElem_mem hl1)).2 (by have := HL.out; have := s.len; show G'.length + 1024 * nX t.toL[1] ≤ 600000000; omega)
      rw [show t.toL[1].1.w.toNat = A1 by rw [hA1]; rfl] at h9
      have e9 : ∀ inp, evOne t.toL[1].1 (evL t.toL[1].2 (S inp)) t.toL[1].2.ws (S inp) = (evL t (S inp)).getD 1 (0, false) := fun inp => (evL_get t (S inp) 1 hl1).symm
      simp only [e9] at h9
      exact h9)
  obtain ⟨rfl, rfl⟩ : b0 = b1 ∧ o0 = o1 := by rw [ha0] at ha1; simpa using ha1
  have hl2 : 2 < t.toL.length := by omega
  have hlr2 : 2 < rows.length := by rw [HEW.out.len]; exact hl2
  obtain ⟨kvv2, kr2, y21, y22, y23, y24⟩ := HEW.out.get 2 hl2 hlr2
  obtain ⟨b2, o2, ha2, hp2, hb2, hc2⟩ := HRW.out.cell hlr2
  have hwi2 := ws_get t 2 hl2
  have hlt2 : ∀ inp, 1 ≤ t.ws.getD 2 0 ∧ t.ws.getD 2 0 ≤ 64 ∧ kv (evL t (S inp)) 2 < 2 ^ kw t.ws 2 := fun inp => evL_lt (HOK.out inp) HWT.out 2 hl2
  rw [E] at hwi2 hlt2
  simp only [List.getD_cons_zero, List.getD_cons_succ, kw] at hwi2 hlt2
  obtain ⟨A2, hA2⟩ : ∃ A : Nat, t.toL[2].1.w = A := ⟨t.toL[2].1.w.toNat, by have := (wtL_mm HWT.out _ (List.getElem_mem hl2)).2.1; omega⟩
  have hA2b : 1 ≤ A2 ∧ A2 ≤ 64 := by have := (wtL_mm HWT.out _ (List.getElem_mem hl2)).2.1; omega
  obtain ⟨ka2, kc2, hkv2, -, -⟩ := y23.form
  have KC2 : Hid (∀ K Z gv' G', ST B X P W gB cv gc gv G n K Z gv' G' → K + 1024 * nX t.toL[2] ≤ 1024 * nX (f, t) → (∀ j < 7, Z.cell? ⟨b2, o2 + 2 * 7 + j, none⟩ = (efC t.toL[2].1 (.slice ka2 kr2.length kc2))[j]?) ∧ Calls Try.prog 33 #[.pointer (some ⟨gB, 0, none⟩), efA t.toL[2].1 (.slice ka2 kr2.length kc2), .pointer (some ⟨gF, oF, none⟩)] Z fun e w' => RVB B X P gB cv gc gv' Z G' n (1024 * nX t.toL[2]) A2 (fun inp => kv (evL t (S inp)) 2) (fun inp => kf (evL t (S inp)) 2) e w') := Hid.mk (fun K Z gv' G' s hK => by
    subst hkv2
    refine ⟨fun j hj => ?_, ?_⟩
    · have h1 := hc2 j hj
      rw [y21] at h1
      rw [(s.kp HBW.out).cell hp2 hb2]
      exact h1
    · have h9 := IH t.toL[2] (List.getElem_mem hl2) B X Z gB cv gc gv' G' n gF oF gW ty cs cw S vs ls fb _ kr2 s.bs (s.frm HBW.out HFW.out) HWS.out hcl y22 (y23.step (s.kp HBW.out)) (y24.step (s.kp HBW.out)) (wtL_mm HWT.out _ (List.getElem_mem hl2)).1 (wtL_mm HWT.out _ (List.getElem_mem hl2)).2 (by have := HL.out; have := s.len; show G'.length + 1024 * nX t.toL[2] ≤ 600000000; omega)
      rw [show t.toL[2].1.w.toNat = A2 by rw [hA2]; rfl] at h9
      have e9 : ∀ inp, evOne t.toL[2].1 (evL t.toL[2].2 (S inp)) t.toL[2].2.ws (S inp) = (evL t (S inp)).getD 2 (0, false) := fun inp => (evL_get t (S inp) 2 hl2).symm
      simp only [e9] at h9
      exact h9)
  obtain ⟨rfl, rfl⟩ : b0 = b2 ∧ o0 = o2 := by rw [ha0] at ha2; simpa using ha2
  have HNE := Hid.mk hnE
  clear hc0 hp0 hb0 y01 y02 y03 y04 hkv0
  clear hc1 hp1 hb1 y11 y12 y13 y14 hkv1
  clear hc2 hp2 hb2 y21 y22 y23 y24 hkv2
  generalize nX (t.toL[0]'hl0) = N0 at *
  generalize (t.toL[0]'hl0).1 = x0 at *
  generalize nX (t.toL[1]'hl1) = N1 at *
  generalize (t.toL[1]'hl1).1 = x1 at *
  generalize nX (t.toL[2]'hl2) = N2 at *
  generalize (t.toL[2]'hl2).1 = x2 at *
  subst ha0
  have hrn : (rows.length : Int) = 3 := by have := HEW.out.len; unfold EL.len at this; omega
  have HRN := Hid.mk hrn
  clear hlr0
  clear hlr1
  clear hlr2
  clear ha1
  clear ha2
  obtain rfl : A0 = 1 := by omega
  obtain rfl : A1 = wd := by omega
  obtain rfl : A2 = A1 := by omega
  have HR : Hid (∀ inp, evOne f (evL t (S inp)) t.ws (S inp) = (if (kv (evL t (S inp)) 0).testBit 0 then kv (evL t (S inp)) 1 else kv (evL t (S inp)) 2, kf (evL t (S inp)) 0 || (kf (evL t (S inp)) 1 || kf (evL t (S inp)) 2))) := Hid.mk (fun inp => by
    have h1 := (hlt0 inp).2.2
    have h2 : kv (evL t (S inp)) 0 = 0 ∨ kv (evL t (S inp)) 0 = 1 := by
      have : kv (evL t (S inp)) 0 < 2 := h1
      omega
    rcases h2 with h2 | h2 <;> simp [evOne, hk, h2, Bool.or_assoc])
  have HHK := Hid.mk hk
  have HHW := Hid.mk hwd
  clear h hF hl hr he hwt hwo kW aE hgE hW hf hk hwd hwk IH E hA0 hA1 hA2 hwi0 hlt0 hwi1 hlt1 hwi2 hlt2
  go_enter Try.func33, Try.ntmps33
  go_upto_region 1 with fail
  rw [← hWd]
  have HKE : Hid (Stp (fpC gc gv) (fpC gc gv) w W) := Hid.mk (Stp.keep HKW.out)
  generalize w.heap.size = gE at *
  obtain ⟨w0, gv0, G0, rfl, rfl, rfl⟩ : ∃ (w0 : World) (gv0 : Value) (G0 : List Gate), w0 = W ∧ gv0 = gv ∧ G0 = G := ⟨_, _, _, rfl, rfl, rfl⟩
  clear hWd
  obtain ⟨hcl9, hcall9⟩ := KC0.out _ _ _ _ HT0.out (by have := HNX.out; have := HNE.out; omega)
  have g0 := hcl9 0 (by decide)
  have g1 := hcl9 1 (by decide)
  have g2 := hcl9 2 (by decide)
  have g3 := hcl9 3 (by decide)
  have g4 := hcl9 4 (by decide)
  have g5 := hcl9 5 (by decide)
  have g6 := hcl9 6 (by decide)
  simp only [efC, List.getElem?_cons_zero, List.getElem?_cons_succ, Nat.zero_mul, Nat.one_mul, Nat.reduceMul, Nat.add_zero] at g0 g1 g2 g3 g4 g5 g6
  have HCALL := Hid.mk hcall9
  simp only [efA] at HCALL
  clear hcl9 hcall9
  go_wp2_with fail
  refine HCALL.out.mono ?_
  rintro e w2 ⟨gv2, G2, l2, pa2, pc2, fb2, rfl, b9, s9, x9, wo9, wv9, bt9⟩
  have HS2 : Hid (ST B X P w0 gB cv gc gv0 G0 n (1024 * N0) w2 gv2 G2) := Hid.mk ⟨b9, s9, x9⟩
  have HT2 := Hid.mk (HT0.out.trans HS2.out)
  have HWk0 := Hid.mk wo9
  have HVk0 := Hid.mk wv9
  have HTk0 := Hid.mk bt9
  clear b9 s9 x9 wo9 wv9 bt9 g0 g1 g2 g3 g4 g5 g6 HCALL x0 e0 e1 e2 e3 e4 e5 e6 f0 f1
  obtain ⟨x0, e0, e1, e2, e3, e4, e5, e6, f0, f1⟩ := HD.out _ _ _ _ HT2.out
  rw [HHK.out] at e0
  obtain ⟨hcl9, hcall9⟩ := KC1.out _ _ _ _ HT2.out (by have := HNX.out; have := HNE.out; omega)
  have g0 := hcl9 0 (by decide)
  have g1 := hcl9 1 (by decide)
  have g2 := hcl9 2 (by decide)
  have g3 := hcl9 3 (by decide)
  have g4 := hcl9 4 (by decide)
  have g5 := hcl9 5 (by decide)
  have g6 := hcl9 6 (by decide)
  simp only [efC, List.getElem?_cons_zero, List.getElem?_cons_succ, Nat.zero_mul, Nat.one_mul, Nat.reduceMul, Nat.add_zero] at g0 g1 g2 g3 g4 g5 g6
  have HCALL := Hid.mk hcall9
  simp only [efA] at HCALL
  clear hcl9 hcall9
  go_wp2_with fail
  refine HCALL.out.mono ?_
  rintro e w3 ⟨gv3, G3, l3, pa3, pc3, fb3, rfl, b9, s9, x9, wo9, wv9, bt9⟩
  have HS3 : Hid (ST B X P w2 gB cv gc gv2 G2 n (1024 * N1) w3 gv3 G3) := Hid.mk ⟨b9, s9, x9⟩
  have HT3 := Hid.mk (HT2.out.trans HS3.out)
  have HWk1 := Hid.mk wo9
  have HVk1 := Hid.mk wv9
  have HTk1 := Hid.mk bt9
  clear b9 s9 x9 wo9 wv9 bt9 g0 g1 g2 g3 g4 g5 g6 HCALL x0 e0 e1 e2 e3 e4 e5 e6 f0 f1
  obtain ⟨x0, e0, e1, e2, e3, e4, e5, e6, f0, f1⟩ := HD.out _ _ _ _ HT3.out
  rw [HHK.out] at e0
  obtain ⟨hcl9, hcall9⟩ := KC2.out _ _ _ _ HT3.out (by have := HNX.out; have := HNE.out; omega)
  have g0 := hcl9 0 (by decide)
  have g1 := hcl9 1 (by decide)
  have g2 := hcl9 2 (by decide)
  have g3 := hcl9 3 (by decide)
  have g4 := hcl9 4 (by decide)
  have g5 := hcl9 5 (by decide)
  have g6 := hcl9 6 (by decide)
  simp only [efC, List.getElem?_cons_zero, List.getElem?_cons_succ, Nat.zero_mul, Nat.one_mul, Nat.reduceMul, Nat.add_zero] at g0 g1 g2 g3 g4 g5 g6
  have HCALL := Hid.mk hcall9
  simp only [efA] at HCALL
  clear hcl9 hcall9
  go_wp2_with fail
  refine HCALL.out.mono ?_
  rintro e w4 ⟨gv4, G4, l4, pa4, pc4, fb4, rfl, b9, s9, x9, wo9, wv9, bt9⟩
  have HS4 : Hid (ST B X P w3 gB cv gc gv3 G3 n (1024 * N2) w4 gv4 G4) := Hid.mk ⟨b9, s9, x9⟩
  have HT4 := Hid.mk (HT3.out.trans HS4.out)
  have HWk2 := Hid.mk wo9
  have HVk2 := Hid.mk wv9
  have HTk2 := Hid.mk bt9
  clear b9 s9 x9 wo9 wv9 bt9 g0 g1 g2 g3 g4 g5 g6 HCALL x0 e0 e1 e2 e3 e4 e5 e6 f0 f1
  obtain ⟨x0, e0, e1, e2, e3, e4, e5, e6, f0, f1⟩ := HD.out _ _ _ _ HT4.out
  rw [HHK.out] at e0
  have HW0 := Hid.mk (HS4.out.wo (HS3.out.wo HWk0.out))
  have HV0 := Hid.mk (HS4.out.wv (HS3.out.wv HVk0.out))
  have hln2 : l2.length = 1 := HVk0.out.len
  obtain ⟨cb, co, hcb, ccb⟩ := HW0.out.cell (i := 0) (by omega)
  have hbt := HV0.out.bit 0 (by omega)
  generalize l2[0] = cond at *
  have HBC := Hid.mk hbt
  rw [Nat.add_zero] at ccb
  subst hcb
  clear hbt hln2 x0 e0 e1 e2 e3 e4 e5 e6 f0 f1
  go_wp2_with fail
  refine (mux_k HT4.out.bs HBC.out (HS4.out.wo HWk1.out) (HS4.out.wv HVk1.out) HWk2.out HVk2.out hwd1.2 (by have := HL.out; have := HT4.out.len; have := HNX.out; have := HNE.out; omega)).mono ?_
  rintro e w5 ⟨gv5, G5, l5, pa5, pc5, rfl, b9, s9, x9, wo9, wv9⟩
  have HS5 : Hid (ST B X P w4 gB cv gc gv4 G4 n 448 w5 gv5 G5) := Hid.mk ⟨b9, s9, x9⟩
  have HT5 := Hid.mk (HT4.out.trans HS5.out)
  have HW5 := Hid.mk wo9
  have HV5 := Hid.mk wv9
  clear b9 s9 x9 wo9 wv9 ccb
  go_wp2_with fail
  refine (or_k HT5.out.bs (HS5.out.bt (HS4.out.bt HTk1.out)) (HS5.out.bt HTk2.out) (by have := HL.out; have := HT5.out.len; have := HNX.out; have := HNE.out; omega)).mono ?_
  rintro e w6 ⟨gv6, G6, b6, rfl, b9, s9, x9, bt9⟩
  have HS6 : Hid (ST B X P w5 gB cv gc gv5 G5 n 4 w6 gv6 G6) := Hid.mk ⟨b9, s9, x9⟩
  have HT6 := Hid.mk (HT5.out.trans HS6.out)
  have HB6 := Hid.mk bt9
  clear b9 s9 x9 bt9
  go_wp2_with fail
  refine (or_k HT6.out.bs (HS6.out.bt (HS5.out.bt (HS4.out.bt (HS3.out.bt HTk0.out)))) HB6.out (by have := HL.out; have := HT6.out.len; have := HNX.out; have := HNE.out; omega)).mono ?_
  rintro e w7 ⟨gv7, G7, b7, rfl, b9, s9, x9, bt9⟩
  have HS7 : Hid (ST B X P w6 gB cv gc gv6 G6 n 4 w7 gv7 G7) := Hid.mk ⟨b9, s9, x9⟩
  have HT7 := Hid.mk (HT6.out.trans HS7.out)
  have HB7 := Hid.mk bt9
  clear b9 s9 x9 bt9
  go_wp2_with fail
  go_ret2
  exact ⟨gv7, G7, l5, _, _, _, rfl, HT7.out.bs, HKE.out.trans HT7.out.st, HT7.out.ex.mono (by have := HNX.out; have := HNE.out; omega), HS7.out.wo (HS6.out.wo HW5.out), (HS7.out.wv (HS6.out.wv HV5.out)).congr (fun inp => by rw [HR.out]), HB7.out.congr (fun inp => by rw [HR.out])⟩
end Go.Proofs.Qxb6500772a
