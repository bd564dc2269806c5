/- blast: expr, the leaves. -/
import Derived.Test.Qxb6500772aDg
import Derived.Test.Qxb6500772aTe
import Derived.Deep.RegionHeld3
namespace Go.Proofs.Qxb6500772a
open Go.RowKit Go.Qm
set_option linter.unusedVariables false
set_option linter.unusedSimpArgs false
attribute [local go_sem ↓] Go.wp_at_zero Go.wp_at_succ
set_option maxRecDepth 8000 in
set_option maxHeartbeats 8000000 in
theorem xc_k0 {P : Nat → Prop} {f : EF} {t : EL} (IH : ∀ x ∈ t.toL, XC P x.1 x.2) (hk : f.k = 0) : XC P f t := by
  intro B X w gB cv gc gv G n gF oF gW ty cs cw S vs ls fb kx rows h hF hW hcl hf hr he hwt hwo hl
  have hwk : (t.ws = [] ∧ f.v < 2 ^ f.w.toNat) := by
    have h9 := hwo.2
    rw [hk] at h9
    rcases h9 with ⟨a, h9⟩ | ⟨a, h9⟩ | ⟨a, h9⟩ | ⟨a, h9⟩ | ⟨a, h9⟩ | ⟨a, h9⟩ | ⟨a, h9⟩
    · exact h9
    · exact absurd a (by decide)
    · exact absurd a (by decide)
    · exact absurd a (by decide)
    · exact absurd a (by decide)
    · exact absurd a (by decide)
    · exact absurd a (by decide)
  obtain ⟨wd, hwd⟩ : ∃ wd : Nat, f.w = wd := ⟨f.w.toNat, by have := hwo.1; omega⟩
  have hwd1 : 1 ≤ wd ∧ wd ≤ 64 := by have := hwo.1; omega
  rw [show f.w.toNat = wd by rw [hwd]; rfl]
  obtain ⟨ka, kc, hkx, kx1, kx2⟩ := hr.form
  subst hkx
  unfold maxLen at kx2
  obtain ⟨W, hWd⟩ : ∃ W, W = w.alloc (.cells #[.int .i64 f.k, .int .i64 f.w, .int .i64 f.o, .int .u64 (f.v : Nat), .int .i64 f.c, .int .i64 f.l, .slice ka rows.length kc] 31) := ⟨_, rfl⟩
  have kW : Keep w W := by rw [hWd]; exact (Keep.refl w).alloc _
  have aE : Arr W w.heap.size 31 (EfC f (.slice ka rows.length kc)) := by rw [hWd]; exact Arr.new w 31 _
  have HBW := Hid.mk (h.keep kW)
  have HFW := Hid.mk (hF.keep kW)
  have HKW := Hid.mk kW
  have HAE := Hid.mk aE
  have hgE : ¬ fpC gc gv w.heap.size := fun a => by have := (h.cc.flt a).2; omega
  have HGE := Hid.mk hgE
  have HL := Hid.mk hl
  have HNX := Hid.mk (nX_pos f t)
  have HRW := Hid.mk (hr.step (KP.of kW))
  have HEW := Hid.mk (he.step (KP.of kW))
  have HWT := Hid.mk hwt
  have HWS := Hid.mk hW
  have HT0 := Hid.mk (ST.refl (h.keep kW))
  have HD : Hid (∀ K Z gv' G', ST B X P W gB cv gc gv G n K Z gv' G' → (Z.cell? ⟨gB, 0, none⟩ = some (.pointer (some ⟨gc, 0, none⟩))) ∧ (Z.cell? ⟨w.heap.size, 0, none⟩ = some (.int .i64 f.k)) ∧ (Z.cell? ⟨w.heap.size, 1, none⟩ = some (.int .i64 (wd : Nat))) ∧ (Z.cell? ⟨w.heap.size, 2, none⟩ = some (.int .i64 f.o)) ∧ (Z.cell? ⟨w.heap.size, 3, none⟩ = some (.int .u64 (f.v : Nat))) ∧ (Z.cell? ⟨w.heap.size, 4, none⟩ = some (.int .i64 f.c)) ∧ (Z.cell? ⟨w.heap.size, 5, none⟩ = some (.int .i64 f.l)) ∧ (Z.cell? ⟨w.heap.size, 6, none⟩ = some (.slice ka rows.length kc)) ∧ (Z.cell? ⟨gF, oF, none⟩ = some (.slice (some ⟨gW, 0, none⟩) cw.length cw.length)) ∧ (Z.cell? ⟨gF, oF + 1, none⟩ = some (.int .i64 (fb : Nat)))) := Hid.mk (fun K Z gv' G' s => by
    obtain ⟨e0, e1, e2, e3, e4, e5, e6⟩ := efC_cells (s.own HBW.out HAE.out HGE.out)
    obtain ⟨f0, f1, -⟩ := (s.frm HBW.out HFW.out).cells
    rw [hwd] at e1
    exact ⟨s.bs.cells.1, e0, e1, e2, e3, e4, e5, e6, f0, f1⟩)
  obtain ⟨x0, e0, e1, e2, e3, e4, e5, e6, f0, f1⟩ := HD.out _ _ _ _ HT0.out
  rw [hk] at e0
  simp only [efA]
  have i1 : (1 : Int) ≤ wd := by omega
  have i2 : (wd : Int) ≤ 64 := by omega
  have HOK : Hid (∀ inp, StOK cw (S inp)) := Hid.mk (fun inp => hF.ok inp)
  obtain ⟨hks, hv⟩ := hwk
  have hfv := hf.v
  rw [show f.w.toNat = wd by rw [hwd]; rfl] at hv
  have H66 := Hid.mk (const_k HT0.out.drew.bs f.v hfv wd hwd1.2 (by have := HL.out; omega))
  rw [Nat.mod_eq_of_lt hv] at H66
  have sd : W.drew.cell? ⟨gB, 0, none⟩ = some (.pointer (some ⟨gc, 0, none⟩)) ∧ W.drew.cell? ⟨w.heap.size, 3, none⟩ = some (.int .u64 (f.v : Nat)) ∧ W.drew.cell? ⟨w.heap.size, 1, none⟩ = some (.int .i64 (wd : Nat)) := ⟨x0, e3, e1⟩
  have HR : Hid (∀ inp, evOne f (evL t (S inp)) t.ws (S inp) = (f.v, false)) := Hid.mk (fun inp => by simp [evOne, hk])
  have HHK := Hid.mk hk
  have HHW := Hid.mk hwd
  clear h hF hl hr he hwt hwo kW aE hgE hW hf hk hwd hks hv hfv IH
  go_enter Try.func33, Try.ntmps33
  go_upto_region 1 with fail
  rw [← hWd]
  have HKE : Hid (Stp (fpC gc gv) (fpC gc gv) w W) := Hid.mk (Stp.keep HKW.out)
  generalize w.heap.size = gE at *
  clear hWd
  go_wp2_with fail
  go_region_held3 (fun w' => w'.cell? ⟨gB, 0, none⟩ = some (.pointer (some ⟨gc, 0, none⟩)) ∧ w'.cell? ⟨gE, 3, none⟩ = some (.int .u64 (f.v : Nat)) ∧ w'.cell? ⟨gE, 1, none⟩ = some (.int .i64 (wd : Nat))) (with_reducible first | exact sd | exact sd4)
    (first
      | (go_at_call 66; refine H66.out.mono ?_; rintro e w4 ⟨gv2, G2, l2, va, vc, rfl, b4, s4, x4, wo4, wv4⟩; have HS4 : Hid (ST B X P W.drew gB cv gc gv G n 64 w4 gv2 G2) := Hid.mk ⟨b4, s4, x4⟩; have HT4 := Hid.mk (HT0.out.drew.trans HS4.out); obtain ⟨q0, q1, q2, q3, q4, q5, q6, q7, q8, q9⟩ := HD.out _ _ _ _ HT4.out; have sd4 : w4.cell? ⟨gB, 0, none⟩ = some (.pointer (some ⟨gc, 0, none⟩)) ∧ w4.cell? ⟨gE, 3, none⟩ = some (.int .u64 (f.v : Nat)) ∧ w4.cell? ⟨gE, 1, none⟩ = some (.int .i64 (wd : Nat)) := ⟨q0, q4, q2⟩; have HW4 := Hid.mk wo4; have HV4 := Hid.mk wv4; clear b4 s4 x4 wo4 wv4 q0 q1 q2 q3 q4 q5 q6 q7 q8 q9)
      | (go_at_call 75; refine (false_c gc _).mono ?_; rintro e y9 ⟨rfl, hy9⟩; subst hy9))
  rename_i hHd
  clear hHd
  go_wp2_with fail
  go_ret2
  exact ⟨gv2, G2, l2, _, _, 0, rfl, HT4.out.bs, HKE.out.trans HT4.out.st, HT4.out.ex.mono (by have := HNX.out; omega), HW4.out, HV4.out.congr (fun inp => by rw [HR.out]), HT4.out.bs.wf.2.congr (fun inp => by rw [HR.out])⟩
set_option maxRecDepth 8000 in
set_option maxHeartbeats 8000000 in
theorem xc_k1 {P : Nat → Prop} {f : EF} {t : EL} (IH : ∀ x ∈ t.toL, XC P x.1 x.2) (hk : f.k = 1) : XC P f t := by
  intro B X w gB cv gc gv G n gF oF gW ty cs cw S vs ls fb kx rows h hF hW hcl hf hr he hwt hwo hl
  have hwk : (t.ws = [] ∧ wtCells cw f.c 1 f.w) := by
    have h9 := hwo.2
    rw [hk] at h9
    rcases h9 with ⟨a, h9⟩ | ⟨a, h9⟩ | ⟨a, h9⟩ | ⟨a, h9⟩ | ⟨a, h9⟩ | ⟨a, h9⟩ | ⟨a, h9⟩
    · exact absurd a (by decide)
    · exact h9
    · exact absurd a (by decide)
    · exact absurd a (by decide)
    · exact absurd a (by decide)
    · exact absurd a (by decide)
    · exact absurd a (by decide)
  obtain ⟨wd, hwd⟩ : ∃ wd : Nat, f.w = wd := ⟨f.w.toNat, by have := hwo.1; omega⟩
  have hwd1 : 1 ≤ wd ∧ wd ≤ 64 := by have := hwo.1; omega
  rw [show f.w.toNat = wd by rw [hwd]; rfl]
  obtain ⟨ka, kc, hkx, kx1, kx2⟩ := hr.form
  subst hkx
  unfold maxLen at kx2
  obtain ⟨W, hWd⟩ : ∃ W, W = w.alloc (.cells #[.int .i64 f.k, .int .i64 f.w, .int .i64 f.o, .int .u64 (f.v : Nat), .int .i64 f.c, .int .i64 f.l, .slice ka rows.length kc] 31) := ⟨_, rfl⟩
  have kW : Keep w W := by rw [hWd]; exact (Keep.refl w).alloc _
  have aE : Arr W w.heap.size 31 (EfC f (.slice ka rows.length kc)) := by rw [hWd]; exact Arr.new w 31 _
  have HBW := Hid.mk (h.keep kW)
  have HFW := Hid.mk (hF.keep kW)
  have HKW := Hid.mk kW
  have HAE := Hid.mk aE
  have hgE : ¬ fpC gc gv w.heap.size := fun a => by have := (h.cc.flt a).2; omega
  have HGE := Hid.mk hgE
  have HL := Hid.mk hl
  have HNX := Hid.mk (nX_pos f t)
  have HRW := Hid.mk (hr.step (KP.of kW))
  have HEW := Hid.mk (he.step (KP.of kW))
  have HWT := Hid.mk hwt
  have HWS := Hid.mk hW
  have HT0 := Hid.mk (ST.refl (h.keep kW))
  have HD : Hid (∀ K Z gv' G', ST B X P W gB cv gc gv G n K Z gv' G' → (Z.cell? ⟨gB, 0, none⟩ = some (.pointer (some ⟨gc, 0, none⟩))) ∧ (Z.cell? ⟨w.heap.size, 0, none⟩ = some (.int .i64 f.k)) ∧ (Z.cell? ⟨w.heap.size, 1, none⟩ = some (.int .i64 (wd : Nat))) ∧ (Z.cell? ⟨w.heap.size, 2, none⟩ = some (.int .i64 f.o)) ∧ (Z.cell? ⟨w.heap.size, 3, none⟩ = some (.int .u64 (f.v : Nat))) ∧ (Z.cell? ⟨w.heap.size, 4, none⟩ = some (.int .i64 f.c)) ∧ (Z.cell? ⟨w.heap.size, 5, none⟩ = some (.int .i64 f.l)) ∧ (Z.cell? ⟨w.heap.size, 6, none⟩ = some (.slice ka rows.length kc)) ∧ (Z.cell? ⟨gF, oF, none⟩ = some (.slice (some ⟨gW, 0, none⟩) cw.length cw.length)) ∧ (Z.cell? ⟨gF, oF + 1, none⟩ = some (.int .i64 (fb : Nat)))) := Hid.mk (fun K Z gv' G' s => by
    obtain ⟨e0, e1, e2, e3, e4, e5, e6⟩ := efC_cells (s.own HBW.out HAE.out HGE.out)
    obtain ⟨f0, f1, -⟩ := (s.frm HBW.out HFW.out).cells
    rw [hwd] at e1
    exact ⟨s.bs.cells.1, e0, e1, e2, e3, e4, e5, e6, f0, f1⟩)
  obtain ⟨x0, e0, e1, e2, e3, e4, e5, e6, f0, f1⟩ := HD.out _ _ _ _ HT0.out
  rw [hk] at e0
  simp only [efA]
  have i1 : (1 : Int) ≤ wd := by omega
  have i2 : (wd : Int) ≤ 64 := by omega
  have HOK : Hid (∀ inp, StOK cw (S inp)) := Hid.mk (fun inp => hF.ok inp)
  obtain ⟨hks, c0, c1, c2, c3⟩ := hwk
  obtain ⟨C, hC⟩ : ∃ C : Nat, f.c = C := ⟨f.c.toNat, by omega⟩
  have hCl : C < cw.length := by omega
  have hcw := c3 0 (by decide)
  obtain ⟨v, l, hv1, hv2, hv3, hv4⟩ := HFW.out.word hCl
  rw [show f.c.toNat + 0 = C by rw [hC]; rfl, hwd] at hcw
  rw [hcw, Int.toNat_natCast] at hv4
  obtain ⟨va, vc, hvv, -, -⟩ := hv3.sh hv4
  subst hvv
  rw [hC] at e4
  have HV3 := Hid.mk hv3
  have HV4 := Hid.mk hv4
  have m1 : (C : Int) < cw.length := by omega
  have m2 : (0 : Int) ≤ C := by omega
  have sd : W.drew.cell? ⟨gF, oF, none⟩ = some (.slice (some ⟨gW, 0, none⟩) cw.length cw.length) ∧ W.drew.cell? ⟨w.heap.size, 4, none⟩ = some (.int .i64 (C : Nat)) ∧ W.drew.cell? ⟨gW, C, none⟩ = some (.slice va wd vc) ∧ W.drew.cell? ⟨gB, 0, none⟩ = some (.pointer (some ⟨gc, 0, none⟩)) := ⟨f0, e4, hv1, x0⟩
  have HR : Hid (∀ inp, evOne f (evL t (S inp)) t.ws (S inp) = ((S inp).at C, false)) := Hid.mk (fun inp => by simp [evOne, hk, hC, PS.at])
  have HHK := Hid.mk hk
  have HHW := Hid.mk hwd
  clear h hF hl hr he hwt hwo kW aE hgE hW hf hk hwd hks c0 c1 c2 c3 hcw hv3 hv4 hC IH
  go_enter Try.func33, Try.ntmps33
  go_upto_region 1 with fail
  rw [← hWd]
  have HKE : Hid (Stp (fpC gc gv) (fpC gc gv) w W) := Hid.mk (Stp.keep HKW.out)
  generalize w.heap.size = gE at *
  clear hWd
  go_wp2_with fail
  go_region_held3 (fun w' => w'.cell? ⟨gF, oF, none⟩ = some (.slice (some ⟨gW, 0, none⟩) cw.length cw.length) ∧ w'.cell? ⟨gE, 4, none⟩ = some (.int .i64 (C : Nat)) ∧ w'.cell? ⟨gW, C, none⟩ = some (.slice va wd vc) ∧ w'.cell? ⟨gB, 0, none⟩ = some (.pointer (some ⟨gc, 0, none⟩))) (with_reducible first | exact sd) (first | (go_at_call 75; refine (false_c gc _).mono ?_; rintro e y9 ⟨rfl, hy9⟩; subst hy9))
  rename_i hHd
  clear hHd
  go_wp2_with fail
  go_ret2
  exact ⟨gv, G, l, _, _, 0, rfl, HT0.out.drew.bs, HKE.out.trans HT0.out.drew.st, HT0.out.drew.ex.mono (by omega), HT0.out.drew.wo HV3.out, HV4.out.congr (fun inp => by rw [HR.out]), HT0.out.bs.wf.2.congr (fun inp => by rw [HR.out])⟩
set_option maxRecDepth 8000 in
set_option maxHeartbeats 8000000 in
theorem xc_k2 {P : Nat → Prop} {f : EF} {t : EL} (IH : ∀ x ∈ t.toL, XC P x.1 x.2) (hk : f.k = 2) : XC P f t := by
  intro B X w gB cv gc gv G n gF oF gW ty cs cw S vs ls fb kx rows h hF hW hcl hf hr he hwt hwo hl
  have hwk : (t.ws = [] ∧ f.w = 1) := by
    have h9 := hwo.2
    rw [hk] at h9
    rcases h9 with ⟨a, h9⟩ | ⟨a, h9⟩ | ⟨a, h9⟩ | ⟨a, h9⟩ | ⟨a, h9⟩ | ⟨a, h9⟩ | ⟨a, h9⟩
    · exact absurd a (by decide)
    · exact absurd a (by decide)
    · exact h9
    · exact absurd a (by decide)
    · exact absurd a (by decide)
    · exact absurd a (by decide)
    · exact absurd a (by decide)
  obtain ⟨wd, hwd⟩ : ∃ wd : Nat, f.w = wd := ⟨f.w.toNat, by have := hwo.1; omega⟩
  have hwd1 : 1 ≤ wd ∧ wd ≤ 64 := by have := hwo.1; omega
  rw [show f.w.toNat = wd by rw [hwd]; rfl]
  obtain ⟨ka, kc, hkx, kx1, kx2⟩ := hr.form
  subst hkx
  unfold maxLen at kx2
  obtain ⟨W, hWd⟩ : ∃ W, W = w.alloc (.cells #[.int .i64 f.k, .int .i64 f.w, .int .i64 f.o, .int .u64 (f.v : Nat), .int .i64 f.c, .int .i64 f.l, .slice ka rows.length kc] 31) := ⟨_, rfl⟩
  have kW : Keep w W := by rw [hWd]; exact (Keep.refl w).alloc _
  have aE : Arr W w.heap.size 31 (EfC f (.slice ka rows.length kc)) := by rw [hWd]; exact Arr.new w 31 _
  have HBW := Hid.mk (h.keep kW)
  have HFW := Hid.mk (hF.keep kW)
  have HKW := Hid.mk kW
  have HAE := Hid.mk aE
  have hgE : ¬ fpC gc gv w.heap.size := fun a => by have := (h.cc.flt a).2; omega
  have HGE := Hid.mk hgE
  have HL := Hid.mk hl
  have HNX := Hid.mk (nX_pos f t)
  have HRW := Hid.mk (hr.step (KP.of kW))
  have HEW := Hid.mk (he.step (KP.of kW))
  have HWT := Hid.mk hwt
  have HWS := Hid.mk hW
  have HT0 := Hid.mk (ST.refl (h.keep kW))
  have HD : Hid (∀ K Z gv' G', ST B X P W gB cv gc gv G n K Z gv' G' → (Z.cell? ⟨gB, 0, none⟩ = some (.pointer (some ⟨gc, 0, none⟩))) ∧ (Z.cell? ⟨w.heap.size, 0, none⟩ = some (.int .i64 f.k)) ∧ (Z.cell? ⟨w.heap.size, 1, none⟩ = some (.int .i64 (wd : Nat))) ∧ (Z.cell? ⟨w.heap.size, 2, none⟩ = some (.int .i64 f.o)) ∧ (Z.cell? ⟨w.heap.size, 3, none⟩ = some (.int .u64 (f.v : Nat))) ∧ (Z.cell? ⟨w.heap.size, 4, none⟩ = some (.int .i64 f.c)) ∧ (Z.cell? ⟨w.heap.size, 5, none⟩ = some (.int .i64 f.l)) ∧ (Z.cell? ⟨w.heap.size, 6, none⟩ = some (.slice ka rows.length kc)) ∧ (Z.cell? ⟨gF, oF, none⟩ = some (.slice (some ⟨gW, 0, none⟩) cw.length cw.length)) ∧ (Z.cell? ⟨gF, oF + 1, none⟩ = some (.int .i64 (fb : Nat)))) := Hid.mk (fun K Z gv' G' s => by
    obtain ⟨e0, e1, e2, e3, e4, e5, e6⟩ := efC_cells (s.own HBW.out HAE.out HGE.out)
    obtain ⟨f0, f1, -⟩ := (s.frm HBW.out HFW.out).cells
    rw [hwd] at e1
    exact ⟨s.bs.cells.1, e0, e1, e2, e3, e4, e5, e6, f0, f1⟩)
  obtain ⟨x0, e0, e1, e2, e3, e4, e5, e6, f0, f1⟩ := HD.out _ _ _ _ HT0.out
  rw [hk] at e0
  simp only [efA]
  have i1 : (1 : Int) ≤ wd := by omega
  have i2 : (wd : Int) ≤ 64 := by omega
  have HOK : Hid (∀ inp, StOK cw (S inp)) := Hid.mk (fun inp => hF.ok inp)
  obtain ⟨hks, hw1⟩ := hwk
  obtain rfl : wd = 1 := by omega
  have sd : W.drew.cell? ⟨gF, oF + 1, none⟩ = some (.int .i64 (fb : Nat)) ∧ W.drew.cell? ⟨gB, 0, none⟩ = some (.pointer (some ⟨gc, 0, none⟩)) := ⟨f1, x0⟩
  obtain ⟨V, hV⟩ : ∃ V, V = (W.alloc (.cells #[.int .i64 (fb : Nat)] 46)).drew := ⟨_, rfl⟩
  have HTV := Hid.mk (HT0.out.alloc (.cells #[.int .i64 (fb : Nat)] 46)).drew
  rw [← hV] at HTV
  obtain ⟨q0, q1, q2, q3, q4, q5, q6, q7, q8, q9⟩ := HD.out _ _ _ _ HTV.out
  have sv : V.cell? ⟨gF, oF + 1, none⟩ = some (.int .i64 (fb : Nat)) ∧ V.cell? ⟨gB, 0, none⟩ = some (.pointer (some ⟨gc, 0, none⟩)) := ⟨q9, q0⟩
  rw [hV] at sv
  have HBT := Hid.mk HFW.out.bf
  have HR : Hid (∀ inp, evOne f (evL t (S inp)) t.ws (S inp) = ((S inp).fault.toNat, false)) := Hid.mk (fun inp => by simp [evOne, hk])
  clear hV HTV
  have HHK := Hid.mk hk
  have HHW := Hid.mk hwd
  clear h hF hl hr he hwt hwo kW aE hgE hW hf hk hwd hks hw1 q0 q1 q2 q3 q4 q5 q6 q7 q8 q9 IH
  go_enter Try.func33, Try.ntmps33
  go_upto_region 1 with fail
  rw [← hWd]
  have HKE : Hid (Stp (fpC gc gv) (fpC gc gv) w W) := Hid.mk (Stp.keep HKW.out)
  generalize w.heap.size = gE at *
  clear hWd
  go_wp2_with fail
  go_region_held3 (fun w' => w'.cell? ⟨gF, oF + 1, none⟩ = some (.int .i64 (fb : Nat)) ∧ w'.cell? ⟨gB, 0, none⟩ = some (.pointer (some ⟨gc, 0, none⟩))) (with_reducible first | exact sd | exact sv) (first | (go_at_call 75; refine (false_c gc _).mono ?_; rintro e y9 ⟨rfl, hy9⟩; subst hy9))
  all_goals (rename_i hHd; clear hHd; go_wp2_with fail; go_ret2; exact ⟨gv, G, [fb], _, _, 0, rfl, (HT0.out.alloc _).drew.bs, HKE.out.trans (HT0.out.alloc _).drew.st, (Ext.refl HT0.out.bs.wf).mono (by omega), (HT0.out.bs.lit fb).stepX (Stp.keep (Keep.refl _).drew), HBT.out.word.congr (fun inp => by rw [HR.out]), HT0.out.bs.wf.2.congr (fun inp => by rw [HR.out])⟩)
end Go.Proofs.Qxb6500772a
