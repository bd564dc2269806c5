/- blast: ton. -/
import Derived.Test.Qxb6500772aDo
import Derived.Test.Qxb6500772aLf
import Derived.Deep.RegionHeld3
namespace Go.Proofs.Qxb6500772a
open Go.RowKit Go.Qm
set_option linter.unusedVariables false
set_option linter.unusedSimpArgs false
attribute [local go_sem ↓] Go.wp_at_zero Go.wp_at_succ
set_option maxRecDepth 8000 in
set_option maxHeartbeats 8000000 in
theorem ton_c {P : Nat → Prop} {cels : List Cel} {f : SF} {ex : EL} {th el : SL} (hcl : cels.length ≤ 1000000) (hWS : WsOK (cels.map (·.w))) (hk : f.k = 5) : OC 68 P cels f ex th el := by
  intro B X w gB cv gc gv G n gF oF gW ty cs S vs ls fb ev tv lv er tr lr h hc hF hf hr he hr2 he2 hr3 he3 hwt hws hl
  have hwk : (∃ a, ex.ws = [1, a, a] ∧ wtCells (cels.map (·.w)) f.c 1 1 ∧ wtCells (cels.map (·.w)) (f.c + 1) 1 a) := by
    rw [wtS1, hk] at hws
    rcases hws with ⟨a, h9⟩ | ⟨a, h9⟩ | ⟨a, h9⟩ | ⟨a, h9⟩ | ⟨a, h9⟩ | ⟨a, h9⟩ | ⟨a, h9⟩
    · exact absurd a (by decide)
    · exact absurd a (by decide)
    · exact absurd a (by decide)
    · exact absurd a (by decide)
    · exact absurd a (by decide)
    · exact h9
    · exact absurd a (by decide)
  obtain ⟨a, E, ⟨c0, c1, c2, c3⟩, d0, d1, d2, d3⟩ := hwk
  have HC := Hid.mk hc
  have hcl2 : (cels.map (·.w)).length ≤ 1000000 := by rw [List.length_map]; exact hcl
  generalize hcw : cels.map (·.w) = cw at *
  have hexl : ex.toL.length = 3 := by have := ws_len ex; rw [E] at this; simpa [EL.len] using this.symm
  have hrs := hr.step (KP.of (Keep.refl w))
  obtain ⟨ea, ec, hev, ev1, ev2⟩ := hr.form
  obtain ⟨ta, tc, htv, tv1, tv2⟩ := hr2.form
  obtain ⟨la, lc, hlv, lv1, lv2⟩ := hr3.form
  have hel := he.len
  rw [hel] at hev ev1
  unfold EL.len at hev ev1
  rw [hexl] at hev ev1
  subst hev htv hlv
  unfold maxLen at ev2 tv2 lv2
  obtain ⟨W, hWd⟩ : ∃ W, W = w.alloc (.cells #[.int .i64 f.k, .int .i64 f.c, .int .i64 f.l, .int .i64 f.a, .int .i64 f.b, .slice ea 3 ec, .slice ta tr.length tc, .slice la lr.length lc] 109) := ⟨_, rfl⟩
  have kW : Keep w W := by rw [hWd]; exact (Keep.refl w).alloc _
  have aS : Arr W w.heap.size 109 (SfC f (.slice ea 3 ec) (.slice ta tr.length tc) (.slice la lr.length lc)) := by rw [hWd]; exact Arr.new w 109 _
  have HBW := Hid.mk (h.keep kW)
  have HFW := Hid.mk (hF.keep kW)
  have HKW := Hid.mk kW
  have HAS := Hid.mk aS
  have hgS : ¬ fpC gc gv w.heap.size ∧ ¬ pF gF gW w.heap.size := ⟨fun a => by have := (h.cc.flt a).2; omega, fun a => by
    have h1 := h.hX _ hF.xf
    have h2 := h.hX _ hF.xw
    rcases a with a | a <;> omega⟩
  have HGS := Hid.mk hgS
  have HL := Hid.mk hl
  have HNY := Hid.mk (nY_pos f ex th el)
  have HWS := Hid.mk hWS
  have HPX := Hid.mk (pFX hF)
  have HRT := Hid.mk (hr2.step (KP.of kW))
  have HET := Hid.mk (he2.step (KP.of kW))
  have HRL := Hid.mk (hr3.step (KP.of kW))
  have HELS := Hid.mk (he3.step (KP.of kW))
  have HLTE : Hid (∀ inp i, i < 3 → 1 ≤ ex.ws.getD i 0 ∧ ex.ws.getD i 0 ≤ 64 ∧ kv (evL ex (S inp)) i < 2 ^ kw ex.ws i) := Hid.mk (fun inp i hi => evL_lt (hF.ok inp) hwt i (by omega))
  have HI := Hid.mk (inputs_c (h.keep kW) (hF.keep kW) hWS hcl2 f (er := er) hr2.sl hr3.sl (hr.step (KP.of kW)) (he.step (KP.of kW)) hwt (by omega) (by have := nY_pos f ex th el; omega))
  obtain ⟨q0, q1, q2, q3, q4, q5, q6, q7⟩ := sfC_cells aS
  obtain ⟨y0, -⟩ := (h.keep kW).cells
  have HOK : Hid (∀ inp, StOK cw (S inp)) := Hid.mk (fun inp => hF.ok inp)
  have HCWE := Hid.mk hcw
  simp only [sfA] at HI ⊢
  obtain ⟨C, hC⟩ : ∃ C : Nat, f.c = C := ⟨f.c.toNat, by omega⟩
  obtain ⟨A, hA⟩ : ∃ A : Nat, a = A := ⟨a.toNat, by have := (HLTE.out (fun _ => false) 1 (by decide)).1; rw [E] at this; simp at this; omega⟩
  have hA2 : 1 ≤ A ∧ A ≤ 64 := by have := HLTE.out (fun _ => false) 1 (by decide); rw [E] at this; simp at this; omega
  have hC1 : C + 1 < cw.length := by omega
  have HKW0 : Hid (kw ex.ws 0 = 1) := Hid.mk (by rw [E]; rfl)
  have HKW1 : Hid (kw ex.ws 1 = A) := Hid.mk (by rw [E, hA]; rfl)
  have HKW2 : Hid (kw ex.ws 2 = A) := Hid.mk (by rw [E, hA]; rfl)
  have hcwC : (cw.getD C 0).toNat = 1 := by have := c3 0 (by decide); rw [show f.c.toNat + 0 = C by rw [hC]; rfl] at this; rw [this]; rfl
  have hcwC1 : (cw.getD (C + 1) 0).toNat = A := by have := d3 0 (by decide); rw [show (f.c + 1).toNat + 0 = C + 1 by omega] at this; rw [this, hA]; rfl
  have HCW0 := Hid.mk hcwC
  have HCW1 := Hid.mk hcwC1
  have HHC := Hid.mk hC
  have HC1 := Hid.mk hC1
  have m1 : (C : Int) < cw.length := by omega
  have m2 : (0 : Int) ≤ C := by omega
  have m3 : (C : Int) + 1 < cw.length := by omega
  have m4 : (0 : Int) ≤ (C : Int) + 1 := by omega
  have m5 : (C : Int) ≤ 1000000 := by omega
  have m6 : (1 : Int) ≤ A := by omega
  have m7 : (A : Int) ≤ 64 := by omega
  have mw : IntKind.i64.wrap ((C : Int) + 1) = (C : Int) + 1 := by rw [IntKind.wrap_i64]; omega
  have mt : ((C : Int) + 1).toNat = C + 1 := by omega
  have HRX : Hid (∀ inp, exX cw (S inp) (f, ex, th, el) = (if kv (evL ex (S inp)) 0 = 0 then ((⟨(S inp).cells, (S inp).fault || anyF (evL ex (S inp))⟩ : PS).put C 0).put (C + 1) 0 else if sgn (kv (evL ex (S inp)) 1) A ≤ sgn (tonT ((S inp).at (C + 1)) (kv (evL ex (S inp)) 2) A) A then ((⟨(S inp).cells, (S inp).fault || anyF (evL ex (S inp))⟩ : PS).put C 1).put (C + 1) (kv (evL ex (S inp)) 1) else ((⟨(S inp).cells, (S inp).fault || anyF (evL ex (S inp))⟩ : PS).put C 0).put (C + 1) (tonT ((S inp).at (C + 1)) (kv (evL ex (S inp)) 2) A))) := Hid.mk (fun inp => by
    simp only [exX, exOne, hk, hC, HKW1.out]
    rfl)
  have HHK := Hid.mk hk
  have HHF := Hid.mk hf
  clear hc hF hf hr he hr2 he2 hr3 he3 hwt hws hl kW aS hgS hk hel hrs hWS hcw h E c0 c1 c2 c3 d0 d1 d2 d3 hC hC1 hcwC hcwC1 hA
  go_enter Try.func68, Try.ntmps68
  go_upto_region 1 with fail
  rw [← hWd]
  have HKE : Hid (SX (pF gF gW) B X P w gB cv gc gv G n 0 W gv G) := Hid.mk ⟨HBW.out, SY.keep HKW.out, Ext.refl HBW.out.wf⟩
  generalize w.heap.size = gS at *
  clear hWd
  go_wp2_with fail
  refine HI.out.mono ?_
  rintro e w2 ⟨gv2, G2, gV, wvl, wll, fb2, he9, sx2, fr2, vl2⟩
  rw [hexl] at he9
  subst he9
  have HX2 : Hid (SX (pF gF gW) B X P W gB cv gc gv G n (1028 * nE ex + 4) w2 gv2 G2) := Hid.mk (sx2.wider (fun q _ a => Or.inl a))
  have HF2 := Hid.mk fr2
  have HD : Hid (∀ K Z gv' G', SX (pF gF gW) B X P w2 gB cv gc gv2 G2 n K Z gv' G' → (Z.cell? ⟨gB, 0, none⟩ = some (.pointer (some ⟨gc, 0, none⟩))) ∧ Arr Z gS 109 (SfC f (.slice ea 3 ec) (.slice ta tr.length tc) (.slice la lr.length lc)) ∧ Arr Z gV 96 wvl) := Hid.mk (fun K Z gv' G' s => ⟨s.bs.cells.1, (HX2.out.trans s).arr HAS.out HGS.out.1 HGS.out.2, s.arr vl2.ar (fun a => vl2.nb (Or.inl a)) (fun a => vl2.nb (Or.inr (HPX.out _ a)))⟩)
  have hvl : wvl.length = 3 := by rw [vl2.lv]; exact hexl
  have hwl : wll.length = 3 := by rw [vl2.ll]; exact hexl
  have hk0 : kw ex.ws 0 = 1 := HKW0.out
  have wv0 := vl2.wv 0 (by omega)
  rw [hk0] at wv0
  have wo0 := vl2.wo 0 (by omega) (by omega)
  obtain ⟨va0, vc0, hv0, -, -⟩ := wo0.sh wv0
  rw [hv0] at wo0
  have hg0 : wvl[0]? = some (.slice va0 1 vc0) := by rw [List.getElem?_eq_getElem (by omega), hv0]
  generalize wll[0]'(by omega) = l0 at *
  obtain ⟨vb0, vo0, hva0⟩ := wo0.blk (by rw [wv0.len]; omega)
  subst hva0
  obtain ⟨p0, hp0, bp0⟩ := wv0.first (by omega)
  have HWO0 := Hid.mk wo0
  have HWV0 := Hid.mk wv0
  have HBP0 := Hid.mk bp0
  have HP0 := Hid.mk hp0
  have HVG0 := Hid.mk hg0
  clear hk0 wv0 wo0 hv0 hg0 hp0 bp0
  have hk1 : kw ex.ws 1 = A := HKW1.out
  have wv1 := vl2.wv 1 (by omega)
  rw [hk1] at wv1
  have wo1 := vl2.wo 1 (by omega) (by omega)
  obtain ⟨va1, vc1, hv1, -, -⟩ := wo1.sh wv1
  rw [hv1] at wo1
  have hg1 : wvl[1]? = some (.slice va1 A vc1) := by rw [List.getElem?_eq_getElem (by omega), hv1]
  generalize wll[1]'(by omega) = l1 at *
  obtain ⟨vb1, vo1, hva1⟩ := wo1.blk (by rw [wv1.len]; omega)
  subst hva1
  obtain ⟨p1, hp1, bp1⟩ := wv1.first (by omega)
  have HWO1 := Hid.mk wo1
  have HWV1 := Hid.mk wv1
  have HBP1 := Hid.mk bp1
  have HP1 := Hid.mk hp1
  have HVG1 := Hid.mk hg1
  clear hk1 wv1 wo1 hv1 hg1 hp1 bp1
  have hk2 : kw ex.ws 2 = A := HKW2.out
  have wv2 := vl2.wv 2 (by omega)
  rw [hk2] at wv2
  have wo2 := vl2.wo 2 (by omega) (by omega)
  obtain ⟨va2, vc2, hv2, -, -⟩ := wo2.sh wv2
  rw [hv2] at wo2
  have hg2 : wvl[2]? = some (.slice va2 A vc2) := by rw [List.getElem?_eq_getElem (by omega), hv2]
  generalize wll[2]'(by omega) = l2 at *
  obtain ⟨vb2, vo2, hva2⟩ := wo2.blk (by rw [wv2.len]; omega)
  subst hva2
  obtain ⟨p2, hp2, bp2⟩ := wv2.first (by omega)
  have HWO2 := Hid.mk wo2
  have HWV2 := Hid.mk wv2
  have HBP2 := Hid.mk bp2
  have HP2 := Hid.mk hp2
  have HVG2 := Hid.mk hg2
  clear hk2 wv2 wo2 hv2 hg2 hp2 bp2
  clear sx2 fr2 vl2 hvl hwl HI q0 q1 q2 q3 q4 q5 q6 q7 y0
  obtain ⟨x0, aS, aV⟩ := HD.out _ _ _ _ (ST.refl HX2.out.bs).sx
  obtain ⟨s0, s1, s2, s3, s4, s5, s6, s7⟩ := sfC_cells aS
  rw [HHC.out] at s1
  have sd : w2.drew.cell? ⟨gV, 0, none⟩ = some (.slice (some ⟨vb0, vo0, none⟩) 1 vc0) ∧ w2.drew.cell? ⟨gV, 1, none⟩ = some (.slice (some ⟨vb1, vo1, none⟩) A vc1) ∧ w2.drew.cell? ⟨gV, 2, none⟩ = some (.slice (some ⟨vb2, vo2, none⟩) A vc2) ∧ w2.drew.cell? ⟨vb0, vo0, none⟩ = some (.int .i64 (p0 : Nat)) := ⟨(aV.cell 0).trans HVG0.out, (aV.cell 1).trans HVG1.out, (aV.cell 2).trans HVG2.out, HWO0.out.at0 HP0.out⟩
  have se : w2.drew.drew.cell? ⟨gS, 1, none⟩ = some (.int .i64 (C : Nat)) := s1
  clear aS aV s0 s1 s2 s3 s4 s5 s6 s7 x0
  go_wp2_with fail
  go_region_held3 (fun w' => w'.cell? ⟨gV, 0, none⟩ = some (.slice (some ⟨vb0, vo0, none⟩) 1 vc0) ∧ w'.cell? ⟨gV, 1, none⟩ = some (.slice (some ⟨vb1, vo1, none⟩) A vc1) ∧ w'.cell? ⟨gV, 2, none⟩ = some (.slice (some ⟨vb2, vo2, none⟩) A vc2) ∧ w'.cell? ⟨vb0, vo0, none⟩ = some (.int .i64 (p0 : Nat))) (with_reducible first | exact sd) (fail)
  rename_i hHd
  clear hHd sd
  go_wp2_with fail
  go_region_held3 (fun w' => w'.cell? ⟨gS, 1, none⟩ = some (.int .i64 (C : Nat))) (with_reducible first | exact se) (fail)
  rename_i hHd
  clear hHd se
  obtain ⟨w3, hW3⟩ : ∃ w3, w3 = w2.drew.drew := ⟨_, rfl⟩
  obtain ⟨gv3, G3, rfl, rfl⟩ : ∃ gv3 G3, gv3 = gv2 ∧ G3 = G2 := ⟨_, _, rfl, rfl⟩
  have HS3 : Hid (ST B X P w2 gB cv gc gv3 G3 n 0 w3 gv3 G3) := Hid.mk (by rw [hW3]; exact ST.keep HX2.out.bs ((Keep.refl w2).drew).drew)
  rw [← hW3]
  clear hW3
  have HF3 := Hid.mk (HS3.out.frm HX2.out.bs HF2.out)
  obtain ⟨mv, lm, hm1, hm2, hm3, hm4⟩ := HF3.out.word HC1.out
  rw [HCW1.out] at hm4
  obtain ⟨ma, mc, hmv, -, -⟩ := hm3.sh hm4
  subst hmv
  have HMO := Hid.mk hm3
  have HMV := Hid.mk hm4
  obtain ⟨f0, -, -⟩ := HF3.out.cells
  clear hm2 hm3 hm4
  go_wp2_with fail
  refine (add_k HS3.out.bs HMO.out HMV.out (HS3.out.wo HWO2.out) (HS3.out.wv HWV2.out) hA2.1 hA2.2 (by have := HL.out; have := HX2.out.len; have := HNY.out; have := HS3.out.len; omega)).mono ?_
  rintro e w4 ⟨gv4, G4, lt, pat, pct, rfl, b9, s9, x9, wo9, wv9⟩
  have HT4 : Hid (ST B X P w3 gB cv gc gv3 G3 n 65 w4 gv4 G4) := Hid.mk ⟨b9, s9, x9⟩
  have HS4 := Hid.mk (HS3.out.trans HT4.out)
  have HWt := Hid.mk wo9
  have HVt := Hid.mk wv9
  clear b9 s9 x9 wo9 wv9
  have hm4 : w4.cell? ⟨gW, C + 1, none⟩ = some (.slice ma A mc) := by
    have a2 := (HT4.out.frm HS3.out.bs HF3.out).aw.cell (C + 1)
    have a3 := HF3.out.aw.cell (C + 1)
    rw [a2, ← a3]; exact hm1
  obtain ⟨g0, -, -⟩ := (HT4.out.frm HS3.out.bs HF3.out).cells
  obtain ⟨y4, -⟩ := HS4.out.bs.cells
  clear hm1 f0
  go_wp2_with fail
  refine (slt_k HS4.out.bs HWt.out HVt.out (HT4.out.wo HMO.out) (HT4.out.wv HMV.out) hA2.1 hA2.2 (by have := HL.out; have := HX2.out.len; have := HNY.out; have := HS4.out.len; omega)).mono ?_
  rintro e w5 ⟨gv5, G5, bs, rfl, b9, s9, x9, bt9⟩
  have HT5 : Hid (ST B X P w4 gB cv gc gv4 G4 n 65 w5 gv5 G5) := Hid.mk ⟨b9, s9, x9⟩
  have HS5 := Hid.mk (HS4.out.trans HT5.out)
  have HBs := Hid.mk bt9
  clear b9 s9 x9 bt9
  clear hm4 g0 y4
  go_wp2_with fail
  refine (max_k HS5.out.bs hA2.1 hA2.2 (by have := HL.out; have := HX2.out.len; have := HNY.out; have := HS5.out.len; omega)).mono ?_
  rintro e w6 ⟨gv6, G6, lx, pax, pcx, rfl, b9, s9, x9, wo9, wv9⟩
  have HT6 : Hid (ST B X P w5 gB cv gc gv5 G5 n 64 w6 gv6 G6) := Hid.mk ⟨b9, s9, x9⟩
  have HS6 := Hid.mk (HS5.out.trans HT6.out)
  have HWx := Hid.mk wo9
  have HVx := Hid.mk wv9
  clear b9 s9 x9 wo9 wv9
  go_wp2_with fail
  refine (muxW_k HS6.out.bs (HT6.out.bt HBs.out) HWx.out HVx.out (HT6.out.wo (HT5.out.wo HWt.out)) (HT6.out.wv (HT5.out.wv HVt.out)) hA2.2 (by have := HL.out; have := HX2.out.len; have := HNY.out; have := HS6.out.len; omega)).mono ?_
  rintro e w7 ⟨gv7, G7, lu, pau, pcu, rfl, b9, s9, x9, wo9, wv9⟩
  have HT7 : Hid (ST B X P w6 gB cv gc gv6 G6 n 448 w7 gv7 G7) := Hid.mk ⟨b9, s9, x9⟩
  have HS7 := Hid.mk (HS6.out.trans HT7.out)
  have HWu := Hid.mk wo9
  have HVu := Hid.mk wv9
  clear b9 s9 x9 wo9 wv9
  have HVU : Hid (Wv G7 lu A (fun i => tonT ((S i).at (C + 1)) (kv (evL ex (S i)) 2) A)) := Hid.mk (HVu.out.congr (fun inp => by unfold tonT; simp only [decide_eq_true_eq]; rfl))
  go_wp2_with fail
  refine (slt_k HS7.out.bs HWu.out HVU.out (HT7.out.wo (HT6.out.wo (HT5.out.wo (HT4.out.wo (HS3.out.wo HWO1.out))))) (HT7.out.wv (HT6.out.wv (HT5.out.wv (HT4.out.wv (HS3.out.wv HWV1.out))))) hA2.1 hA2.2 (by have := HL.out; have := HX2.out.len; have := HNY.out; have := HS7.out.len; omega)).mono ?_
  rintro e w8 ⟨gv8, G8, bd, rfl, b9, s9, x9, bt9⟩
  have HT8 : Hid (ST B X P w7 gB cv gc gv7 G7 n 65 w8 gv8 G8) := Hid.mk ⟨b9, s9, x9⟩
  have HS8 := Hid.mk (HS7.out.trans HT8.out)
  have HBd := Hid.mk bt9
  clear b9 s9 x9 bt9
  go_wp2_with fail
  refine (not_k HS8.out.bs HBd.out (by have := HL.out; have := HX2.out.len; have := HNY.out; have := HS8.out.len; omega)).mono ?_
  rintro e w9 ⟨gv9, G9, bn, rfl, b9, s9, x9, bt9⟩
  have HT9 : Hid (ST B X P w8 gB cv gc gv8 G8 n 1 w9 gv9 G9) := Hid.mk ⟨b9, s9, x9⟩
  have HS9 := Hid.mk (HS8.out.trans HT9.out)
  have HBn := Hid.mk bt9
  clear b9 s9 x9 bt9
  have HS39 : Hid (ST B X P w3 gB cv gc gv3 G3 n (65 + 65 + 64 + 448 + 65 + 1) w9 gv9 G9) := Hid.mk (((((HT4.out.trans HT5.out).trans HT6.out).trans HT7.out).trans HT8.out).trans HT9.out)
  have HF9 := Hid.mk (HS39.out.frm HS3.out.bs HF3.out)
  have HB0 : Hid (Bt G9 p0 (fun inp => (kv (evL ex (S inp)) 0).testBit 0)) := Hid.mk (HS39.out.bt (HS3.out.bt HBP0.out))
  have sd : w9.drew.cell? ⟨gF, oF, none⟩ = some (.slice (some ⟨gW, 0, none⟩) cw.length cw.length) := HF9.out.cells.1
  have C31 := Hid.mk (and_k (HS9.out.bs.keep (Keep.refl w9).drew) HB0.out HBn.out (by have := HL.out; have := HX2.out.len; have := HNY.out; have := HS9.out.len; omega))
  have HFIN : Hid (∀ w5 gv5 G5 b5, ST B X P w9 gB cv gc gv9 G9 n 1 w5 gv5 G5 → Bt G5 b5 (fun i => (kv (evL ex (S i)) 0).testBit 0 && !decide (sgn (tonT ((S i).at (C + 1)) (kv (evL ex (S i)) 2) A) A < sgn (kv (evL ex (S i)) 1) A)) → (FRM X gc gv5 ((w5.alloc (.cells #[.int .i64 (b5 : Nat)] 46)).setCell ⟨gW, C, none⟩ (.slice (some ⟨w5.heap.size, 0, none⟩) 1 1)) G5 gF oF gW ty cs cw (fun inp => (⟨(S inp).cells, (S inp).fault || anyF (evL ex (S inp))⟩ : PS).put C ((kv (evL ex (S inp)) 0).testBit 0 && !decide (sgn (tonT ((S inp).at (C + 1)) (kv (evL ex (S inp)) 2) A) A < sgn (kv (evL ex (S inp)) 1) A)).toNat) (vs.set C (.slice (some ⟨w5.heap.size, 0, none⟩) 1 1)) (ls.set C [b5]) fb2 ∧ SX (pF gF gW) B X P w9 gB cv gc gv9 G9 n 1 ((w5.alloc (.cells #[.int .i64 (b5 : Nat)] 46)).setCell ⟨gW, C, none⟩ (.slice (some ⟨w5.heap.size, 0, none⟩) 1 1)) gv5 G5) ∧ w5.cell? ⟨gF, oF, none⟩ = some (.slice (some ⟨gW, 0, none⟩) cw.length cw.length) ∧ (w5.alloc (.cells #[.int .i64 (b5 : Nat)] 46)).cell? ⟨gF, oF, none⟩ = some (.slice (some ⟨gW, 0, none⟩) cw.length cw.length) ∧ ((w5.alloc (.cells #[.int .i64 (b5 : Nat)] 46)).setCell ⟨gW, C, none⟩ (.slice (some ⟨w5.heap.size, 0, none⟩) 1 1)).cell? ⟨gF, oF, none⟩ = some (.slice (some ⟨gW, 0, none⟩) cw.length cw.length) ∧ ∃ ua uc, (w5.alloc (.cells #[.int .i64 (b5 : Nat)] 46)).cell? ⟨gW, C, none⟩ = some (.slice ua 1 uc) ∧ (w5.alloc (.cells #[.int .i64 (b5 : Nat)] 46)).frozen? ⟨gW, C, none⟩ = false ∧ gW ≠ w5.heap.size) := Hid.mk (fun w5 gv5 G5 b5 s bt => by
    have fa := ((s.alloc (.cells #[.int .i64 (b5 : Nat)] 46)).frm HS9.out.bs HF9.out)
    have fp := fa.put (i := C) (by have := HC1.out; omega) (s.bs.lit b5) (by rw [HCW0.out]; exact bt.word)
    obtain ⟨v9, l9, g1, g2, g3, g4⟩ := fa.word (i := C) (by have := HC1.out; omega)
    rw [HCW0.out] at g4
    obtain ⟨a9, c9, e9, -, -⟩ := g3.sh g4
    rw [e9] at g1
    exact ⟨⟨fp, SX.put (s.alloc _).sx fa C _⟩, (s.frm HS9.out.bs HF9.out).cells.1, fa.cells.1, fp.cells.1, a9, c9, g1, g2, fun e => by have := (s.bs.hX gW (HPX.out gW (Or.inr rfl))); omega⟩)
  go_wp2_with fail
  go_region_held3 (fun w' => w'.cell? ⟨gF, oF, none⟩ = some (.slice (some ⟨gW, 0, none⟩) cw.length cw.length)) (with_reducible first | exact sd | exact sd5 | exact sd6 | exact sd7)
    (first
      | (go_at_call 31; refine C31.out.mono ?_; rintro e w10 ⟨gv10, G10, b10, rfl, b9, s9, x9, bt9⟩; have HT10 : Hid (ST B X P w9 gB cv gc gv9 G9 n 1 w10 gv10 G10) := Hid.mk (((ST.keep HS9.out.bs (Keep.refl w9).drew).trans ⟨b9, s9, x9⟩).mono (by omega)); have HBT10 := Hid.mk bt9; obtain ⟨-, sd5, sd6, sd7, ua9, uc9, uc1, uc2, uc3⟩ := HFIN.out _ _ _ _ HT10.out bt9; clear b9 s9 x9 bt9))
  rename_i hHd
  clear hHd sd sd5 sd6 sd7 uc1 uc2 uc3
  obtain ⟨⟨fp, sp⟩, -⟩ := HFIN.out _ _ _ _ HT10.out HBT10.out
  have HFP := Hid.mk fp
  have HSP := Hid.mk sp
  generalize (w10.alloc (.cells #[.int .i64 (b10 : Nat)] 46)).setCell ⟨gW, C, none⟩ (.slice (some ⟨w10.heap.size, 0, none⟩) 1 1) = w11 at *
  clear fp sp
  have HX11 := Hid.mk ((HX2.out.trans (HS9.out.sx (Y := pF gF gW))).trans HSP.out)
  have HWU11 := Hid.mk (HSP.out.wo HPX.out (HT9.out.wo (HT8.out.wo HWu.out)))
  have HVU11 := Hid.mk (HSP.out.wv (HT9.out.wv (HT8.out.wv HVU.out)))
  have HW1 := Hid.mk (HSP.out.wo HPX.out (HS39.out.wo (HS3.out.wo HWO1.out)))
  have HV1 := Hid.mk (HSP.out.wv (HS39.out.wv (HS3.out.wv HWV1.out)))
  have HBN11 := Hid.mk (HSP.out.bt HBn.out)
  have HB011 := Hid.mk (HSP.out.bt HB0.out)
  have hl11 : G10.length + 2000 ≤ 600000000 := by have := HL.out; have := HX11.out.len; have := HNY.out; omega
  have HL11 := Hid.mk hl11
  have sd : w11.drew.cell? ⟨gF, oF, none⟩ = some (.slice (some ⟨gW, 0, none⟩) cw.length cw.length) := HFP.out.cells.1
  have C89 := Hid.mk (muxW_k (HX11.out.bs.keep (Keep.refl w11).drew) HBN11.out (HW1.out.stepX (Stp.keep (Keep.refl w11).drew)) HV1.out (HWU11.out.stepX (Stp.keep (Keep.refl w11).drew)) HVU11.out hA2.2 (by omega))
  have H66 : Hid (∀ w4 gv4 G4, ST B X P w11 gB cv gc gv10 G10 n 448 w4 gv4 G4 → Calls Try.prog 66 #[.pointer (some ⟨gc, 0, none⟩), .int .u64 0, .int .i64 (A : Nat)] w4 fun e w' => RV B X P gB cv gc gv4 w4 G4 n 64 A (fun _ => 0) e w') := Hid.mk (fun w4 gv4 G4 s => const0_k s.bs A hA2.1 hA2.2 (by have := HL11.out; have := s.len; omega))
  have H89 : Hid (∀ w4 gv4 G4 w5 gv5 G5 xa xc x ya yc y F, ST B X P w11 gB cv gc gv10 G10 n 448 w4 gv4 G4 → ST B X P w4 gB cv gc gv4 G4 n 64 w5 gv5 G5 → WO (fpX gc gv4 X) w4 (.slice xa A xc) x → Wv G4 x A F → WO (fpX gc gv5 X) w5 (.slice ya A yc) y → Wv G5 y A (fun _ => 0) → Calls Try.prog 89 #[.pointer (some ⟨gc, 0, none⟩), .int .i64 (p0 : Nat), .slice xa A xc, .slice ya A yc] w5 fun e w' => RV B X P gB cv gc gv5 w5 G5 n 448 A (fun i => if (kv (evL ex (S i)) 0).testBit 0 then F i else 0) e w') := Hid.mk (fun w4 gv4 G4 w5 gv5 G5 xa xc x ya yc y F s4 s5 hx vx hy vy => muxW_k s5.bs (s5.bt (s4.bt HB011.out)) (s5.wo hx) (s5.wv vx) hy vy hA2.2 (by have := HL11.out; have := s4.len; have := s5.len; omega))
  have HSG : Hid (∀ K Z gv' G', ST B X P w11 gB cv gc gv10 G10 n K Z gv' G' → Z.cell? ⟨gF, oF, none⟩ = some (.slice (some ⟨gW, 0, none⟩) cw.length cw.length) ∧ ∃ ua uc, Z.cell? ⟨gW, C + 1, none⟩ = some (.slice ua A uc) ∧ Z.frozen? ⟨gW, C + 1, none⟩ = false) := Hid.mk (fun K Z gv' G' s => by
    have fa := s.frm HX11.out.bs HFP.out
    obtain ⟨v9, l9, g1, g2, g3, g4⟩ := fa.word HC1.out
    rw [HCW1.out] at g4
    obtain ⟨a9, c9, e9, -, -⟩ := g3.sh g4
    rw [e9] at g1
    exact ⟨fa.cells.1, a9, c9, g1, g2⟩)
  have HPF : Hid (∀ K Z gv' G' xa xc x F, ST B X P w11 gB cv gc gv10 G10 n K Z gv' G' → WO (fpX gc gv' X) Z (.slice xa A xc) x → Wv G' x A F → (FRM X gc gv' (Z.setCell ⟨gW, C + 1, none⟩ (.slice xa A xc)) G' gF oF gW ty cs cw (fun inp => ((⟨(S inp).cells, (S inp).fault || anyF (evL ex (S inp))⟩ : PS).put C ((kv (evL ex (S inp)) 0).testBit 0 && !decide (sgn (tonT ((S inp).at (C + 1)) (kv (evL ex (S inp)) 2) A) A < sgn (kv (evL ex (S inp)) 1) A)).toNat).put (C + 1) (F inp)) ((vs.set C (.slice (some ⟨w10.heap.size, 0, none⟩) 1 1)).set (C + 1) (.slice xa A xc)) ((ls.set C [b10]).set (C + 1) x) fb2 ∧ SX (pF gF gW) B X P w11 gB cv gc gv10 G10 n K (Z.setCell ⟨gW, C + 1, none⟩ (.slice xa A xc)) gv' G') ∧ (Z.setCell ⟨gW, C + 1, none⟩ (.slice xa A xc)).cell? ⟨gF, oF, none⟩ = some (.slice (some ⟨gW, 0, none⟩) cw.length cw.length)) := Hid.mk (fun K Z gv' G' xa xc x F s hx vx => by
    have fa := s.frm HX11.out.bs HFP.out
    have fp := fa.put HC1.out hx (by rw [HCW1.out]; exact vx)
    exact ⟨⟨fp, SX.put s.sx fa (C + 1) _⟩, fp.cells.1⟩)
  clear hl11
  go_wp2_with fail
  go_region_held3 (fun w' => w'.cell? ⟨gF, oF, none⟩ = some (.slice (some ⟨gW, 0, none⟩) cw.length cw.length)) (with_reducible first | exact sd | exact sdA | exact sdB | exact sdC | exact sdD)
    (first
      | ((fail_if_success (have := QA)); go_at_call 89; refine C89.out.mono ?_; rintro e w12 ⟨gv12, G12, l12, a12, c12, rfl, b9, s9, x9, wo9, wv9⟩; have HT12 : Hid (ST B X P w11 gB cv gc gv10 G10 n 448 w12 gv12 G12) := Hid.mk (((ST.keep HX11.out.bs (Keep.refl w11).drew).trans ⟨b9, s9, x9⟩).mono (by omega)); have QA : True := trivial; have sdA := (HSG.out _ _ _ _ HT12.out).1; have HW12 := Hid.mk wo9; have HV12 := Hid.mk wv9; have C66 := Hid.mk (H66.out _ _ _ HT12.out); clear b9 s9 x9 wo9 wv9)
      | (go_at_call 66; refine C66.out.mono ?_; rintro e w13 ⟨gv13, G13, l13, a13, c13, rfl, b9, s9, x9, wo9, wv9⟩; have HT13 : Hid (ST B X P w12 gB cv gc gv12 G12 n 64 w13 gv13 G13) := Hid.mk ⟨b9, s9, x9⟩; have sdB := (HSG.out _ _ _ _ (HT12.out.trans HT13.out)).1; have D89 := Hid.mk (H89.out _ _ _ _ _ _ _ _ _ _ _ _ _ HT12.out HT13.out HW12.out HV12.out wo9 wv9); clear b9 s9 x9 wo9 wv9)
      | (have := QA; go_at_call 89; refine D89.out.mono ?_; rintro e w14 ⟨gv14, G14, l14, a14, c14, rfl, b9, s9, x9, wo9, wv9⟩; have HT14 : Hid (ST B X P w11 gB cv gc gv10 G10 n (448 + 64 + 448) w14 gv14 G14) := Hid.mk ((HT12.out.trans HT13.out).trans ⟨b9, s9, x9⟩); obtain ⟨sdC, ua9, uc9, uc1, uc2⟩ := HSG.out _ _ _ _ HT14.out; have sdD := (HPF.out _ _ _ _ _ _ _ _ HT14.out wo9 wv9).2; have HW14 := Hid.mk wo9; have HV14 := Hid.mk wv9; clear b9 s9 x9 wo9 wv9))
  rename_i hHd
  clear hHd sd sdA sdB sdC sdD uc1 uc2
  obtain ⟨⟨fq, sq⟩, -⟩ := HPF.out _ _ _ _ _ _ _ _ HT14.out HW14.out HV14.out
  have HFQ := Hid.mk fq
  have HSQ := Hid.mk (HX11.out.trans sq)
  clear fq sq
  go_wp2_with fail
  go_end0
  refine ⟨gv14, G14, _, _, _, rfl, (HKE.out.trans HSQ.out).mono (by have := HNY.out; omega), HFQ.out.congr (fun inp => ?_)⟩
  rw [HRX.out]
  have h1 := (HLTE.out inp 0 (by decide)).2.2
  rw [HKW0.out] at h1
  have h3 : kv (evL ex (S inp)) 0 < 2 := h1
  rcases (show kv (evL ex (S inp)) 0 = 0 ∨ kv (evL ex (S inp)) 0 = 1 by omega) with h5 | h5
  · simp [h5]
  · by_cases h6 : sgn (kv (evL ex (S inp)) 1) A ≤ sgn (tonT ((S inp).at (C + 1)) (kv (evL ex (S inp)) 2) A) A
    · have h7 : ¬ sgn (tonT ((S inp).at (C + 1)) (kv (evL ex (S inp)) 2) A) A < sgn (kv (evL ex (S inp)) 1) A := by omega
      simp [h5, h6, h7]
    · have h7 : sgn (tonT ((S inp).at (C + 1)) (kv (evL ex (S inp)) 2) A) A < sgn (kv (evL ex (S inp)) 1) A := by omega
      simp [h5, h6, h7]
end Go.Proofs.Qxb6500772a
