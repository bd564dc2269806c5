/- blast: ctu. -/
import Derived.Test.Qxb6500772aDo
import Derived.Test.Qxb6500772aLf
import Derived.Deep.RegionHeld3
namespace Go.Proofs.Qxb6500772a
open Go.RowKit Go.Qm
set_option linter.unusedVariables false
set_option linter.unusedSimpArgs false
attribute [local go_sem ↓] Go.wp_at_zero Go.wp_at_succ
set_option maxRecDepth 8000 in
set_option maxHeartbeats 8000000 in
theorem ctu_c {P : Nat → Prop} {cels : List Cel} {f : SF} {ex : EL} {th el : SL} (hcl : cels.length ≤ 1000000) (hWS : WsOK (cels.map (·.w))) (hk : f.k = 6) : OC 69 P cels f ex th el := by
  intro B X w gB cv gc gv G n gF oF gW ty cs S vs ls fb ev tv lv er tr lr h hc hF hf hr he hr2 he2 hr3 he3 hwt hws hl
  have hwk : (∃ a, ex.ws = [1, 1, a] ∧ wtCells (cels.map (·.w)) f.c 1 1 ∧ wtCells (cels.map (·.w)) (f.c + 1) 1 a ∧ wtCells (cels.map (·.w)) (f.c + 2) 1 1) := by
    rw [wtS1, hk] at hws
    rcases hws with ⟨a, h9⟩ | ⟨a, h9⟩ | ⟨a, h9⟩ | ⟨a, h9⟩ | ⟨a, h9⟩ | ⟨a, h9⟩ | ⟨a, h9⟩
    · exact absurd a (by decide)
    · exact absurd a (by decide)
    · exact absurd a (by decide)
    · exact absurd a (by decide)
    · exact absurd a (by decide)
    · exact absurd a (by decide)
    · exact h9
  obtain ⟨a, E, ⟨c0, c1, c2, c3⟩, ⟨d0, d1, d2, d3⟩, e0, e1, e2, e3⟩ := hwk
  have HC := Hid.mk hc
  have hcl2 : (cels.map (·.w)).length ≤ 1000000 := by rw [List.length_map]; exact hcl
  generalize hcw : cels.map (·.w) = cw at *
  have hexl : ex.toL.length = 3 := by have := ws_len ex; rw [E] at this; simpa [EL.len] using this.symm
  have hrs := hr.step (KP.of (Keep.refl w))
  obtain ⟨ea, ec, hev, ev1, ev2⟩ := hr.form
  obtain ⟨ta, tc, htv, tv1, tv2⟩ := hr2.form
  obtain ⟨la, lc, hlv, lv1, lv2⟩ := hr3.form
  have hel := he.len
  rw [hel] at hev ev1
  unfold EL.len at hev ev1
  rw [hexl] at hev ev1
  subst hev htv hlv
  unfold maxLen at ev2 tv2 lv2
  obtain ⟨W, hWd⟩ : ∃ W, W = w.alloc (.cells #[.int .i64 f.k, .int .i64 f.c, .int .i64 f.l, .int .i64 f.a, .int .i64 f.b, .slice ea 3 ec, .slice ta tr.length tc, .slice la lr.length lc] 109) := ⟨_, rfl⟩
  have kW : Keep w W := by rw [hWd]; exact (Keep.refl w).alloc _
  have aS : Arr W w.heap.size 109 (SfC f (.slice ea 3 ec) (.slice ta tr.length tc) (.slice la lr.length lc)) := by rw [hWd]; exact Arr.new w 109 _
  have HBW := Hid.mk (h.keep kW)
  have HFW := Hid.mk (hF.keep kW)
  have HKW := Hid.mk kW
  have HAS := Hid.mk aS
  have hgS : ¬ fpC gc gv w.heap.size ∧ ¬ pF gF gW w.heap.size := ⟨fun a => by have := (h.cc.flt a).2; omega, fun a => by
    have h1 := h.hX _ hF.xf
    have h2 := h.hX _ hF.xw
    rcases a with a | a <;> omega⟩
  have HGS := Hid.mk hgS
  have HL := Hid.mk hl
  have HNY := Hid.mk (nY_pos f ex th el)
  have HWS := Hid.mk hWS
  have HPX := Hid.mk (pFX hF)
  have HRT := Hid.mk (hr2.step (KP.of kW))
  have HET := Hid.mk (he2.step (KP.of kW))
  have HRL := Hid.mk (hr3.step (KP.of kW))
  have HELS := Hid.mk (he3.step (KP.of kW))
  have HLTE : Hid (∀ inp i, i < 3 → 1 ≤ ex.ws.getD i 0 ∧ ex.ws.getD i 0 ≤ 64 ∧ kv (evL ex (S inp)) i < 2 ^ kw ex.ws i) := Hid.mk (fun inp i hi => evL_lt (hF.ok inp) hwt i (by omega))
  have HI := Hid.mk (inputs_c (h.keep kW) (hF.keep kW) hWS hcl2 f (er := er) hr2.sl hr3.sl (hr.step (KP.of kW)) (he.step (KP.of kW)) hwt (by omega) (by have := nY_pos f ex th el; omega))
  obtain ⟨q0, q1, q2, q3, q4, q5, q6, q7⟩ := sfC_cells aS
  obtain ⟨y0, -⟩ := (h.keep kW).cells
  have HOK : Hid (∀ inp, StOK cw (S inp)) := Hid.mk (fun inp => hF.ok inp)
  have HCWE := Hid.mk hcw
  simp only [sfA] at HI ⊢
  obtain ⟨C, hC⟩ : ∃ C : Nat, f.c = C := ⟨f.c.toNat, by omega⟩
  obtain ⟨A, hA⟩ : ∃ A : Nat, a = A := ⟨a.toNat, by have := (HLTE.out (fun _ => false) 2 (by decide)).1; rw [E] at this; simp at this; omega⟩
  have hA2 : 1 ≤ A ∧ A ≤ 64 := by have := HLTE.out (fun _ => false) 2 (by decide); rw [E] at this; simp at this; omega
  have hC2 : C + 2 < cw.length := by omega
  have hC1 : C + 1 < cw.length := by omega
  have HKW0 : Hid (kw ex.ws 0 = 1) := Hid.mk (by rw [E]; rfl)
  have HKW1 : Hid (kw ex.ws 1 = 1) := Hid.mk (by rw [E]; rfl)
  have HKW2 : Hid (kw ex.ws 2 = A) := Hid.mk (by rw [E, hA]; rfl)
  have hcwC : (cw.getD C 0).toNat = 1 := by have := c3 0 (by decide); rw [show f.c.toNat + 0 = C by rw [hC]; rfl] at this; rw [this]; rfl
  have hcwC1 : (cw.getD (C + 1) 0).toNat = A := by have := d3 0 (by decide); rw [show (f.c + 1).toNat + 0 = C + 1 by omega] at this; rw [this, hA]; rfl
  have hcwC2 : (cw.getD (C + 2) 0).toNat = 1 := by have := e3 0 (by decide); rw [show (f.c + 2).toNat + 0 = C + 2 by omega] at this; rw [this]; rfl
  have HCW0 := Hid.mk hcwC
  have HCW1 := Hid.mk hcwC1
  have HCW2 := Hid.mk hcwC2
  have HHC := Hid.mk hC
  have HC1 := Hid.mk hC1
  have HC2 := Hid.mk hC2
  have m1 : (C : Int) < cw.length := by omega
  have m2 : (0 : Int) ≤ C := by omega
  have m3 : (C : Int) + 1 < cw.length := by omega
  have m4 : (0 : Int) ≤ (C : Int) + 1 := by omega
  have n3 : (C : Int) + 2 < cw.length := by omega
  have n4 : (0 : Int) ≤ (C : Int) + 2 := by omega
  have m5 : (C : Int) ≤ 1000000 := by omega
  have m6 : (1 : Int) ≤ A := by omega
  have m7 : (A : Int) ≤ 64 := by omega
  have mw : IntKind.i64.wrap ((C : Int) + 1) = (C : Int) + 1 := by rw [IntKind.wrap_i64]; omega
  have mt : ((C : Int) + 1).toNat = C + 1 := by omega
  have nw : IntKind.i64.wrap ((C : Int) + 2) = (C : Int) + 2 := by rw [IntKind.wrap_i64]; omega
  have nt : ((C : Int) + 2).toNat = C + 2 := by omega
  have HRX : Hid (∀ inp, exX cw (S inp) (f, ex, th, el) = (((⟨(S inp).cells, (S inp).fault || anyF (evL ex (S inp))⟩ : PS).put C (!decide (sgn (if (kv (evL ex (S inp)) 1).testBit 0 then 0 else if ((kv (evL ex (S inp)) 0).testBit 0 && !((S inp).at (C + 2)).testBit 0) && !decide ((S inp).at (C + 1) = (2 ^ A - 1) / 2) then wop 0 ((S inp).at (C + 1)) 1 A else (S inp).at (C + 1)) A < sgn (kv (evL ex (S inp)) 2) A)).toNat).put (C + 1) (if (kv (evL ex (S inp)) 1).testBit 0 then 0 else if ((kv (evL ex (S inp)) 0).testBit 0 && !((S inp).at (C + 2)).testBit 0) && !decide ((S inp).at (C + 1) = (2 ^ A - 1) / 2) then wop 0 ((S inp).at (C + 1)) 1 A else (S inp).at (C + 1))).put (C + 2) (kv (evL ex (S inp)) 0)) := Hid.mk (fun inp => by
    have h1 := (HLTE.out inp 0 (by decide)).2.2
    rw [HKW0.out] at h1
    have h2 := (HLTE.out inp 1 (by decide)).2.2
    rw [HKW1.out] at h2
    have h4 := (HOK.out inp).2 (C + 2) hC2
    rw [hcwC2] at h4
    have h1' : kv (evL ex (S inp)) 0 < 2 := h1
    have h2' : kv (evL ex (S inp)) 1 < 2 := h2
    have h4' : (S inp).at (C + 2) < 2 := h4
    rw [bitOf h1', bitOf h2', bitOf h4']
    have e1 : exX cw (S inp) (f, ex, th, el) = (((⟨(S inp).cells, (S inp).fault || anyF (evL ex (S inp))⟩ : PS).put C (decide (sgn (kv (evL ex (S inp)) 2) A ≤ sgn (if kv (evL ex (S inp)) 1 = 1 then 0 else if kv (evL ex (S inp)) 0 = 1 ∧ (S inp).at (C + 2) = 0 ∧ (S inp).at (C + 1) ≠ (2 ^ A - 1) / 2 then wop 0 ((S inp).at (C + 1)) 1 A else (S inp).at (C + 1)) A)).toNat).put (C + 1) (if kv (evL ex (S inp)) 1 = 1 then 0 else if kv (evL ex (S inp)) 0 = 1 ∧ (S inp).at (C + 2) = 0 ∧ (S inp).at (C + 1) ≠ (2 ^ A - 1) / 2 then wop 0 ((S inp).at (C + 1)) 1 A else (S inp).at (C + 1))).put (C + 2) (kv (evL ex (S inp)) 0) := by
      simp only [exX, exOne, hk, hC, HKW2.out]
      rfl
    have e2 : (if kv (evL ex (S inp)) 1 = 1 then 0 else if kv (evL ex (S inp)) 0 = 1 ∧ (S inp).at (C + 2) = 0 ∧ (S inp).at (C + 1) ≠ (2 ^ A - 1) / 2 then wop 0 ((S inp).at (C + 1)) 1 A else (S inp).at (C + 1)) = (if decide (kv (evL ex (S inp)) 1 = 1) then 0 else if (decide (kv (evL ex (S inp)) 0 = 1) && !decide ((S inp).at (C + 2) = 1)) && !decide ((S inp).at (C + 1) = (2 ^ A - 1) / 2) then wop 0 ((S inp).at (C + 1)) 1 A else (S inp).at (C + 1)) := by
      have e3 : ((decide (kv (evL ex (S inp)) 0 = 1) && !decide ((S inp).at (C + 2) = 1)) && !decide ((S inp).at (C + 1) = (2 ^ A - 1) / 2)) = decide (kv (evL ex (S inp)) 0 = 1 ∧ (S inp).at (C + 2) = 0 ∧ (S inp).at (C + 1) ≠ (2 ^ A - 1) / 2) := by
        rcases (show (S inp).at (C + 2) = 0 ∨ (S inp).at (C + 2) = 1 by omega) with h | h <;> simp [h]
      rw [e3]
      simp only [decide_eq_true_eq]
    have e4 : ∀ a b : Int, decide (b ≤ a) = !decide (a < b) := fun a b => by rw [← decide_not]; exact decide_eq_decide.2 (by omega)
    rw [e1, e2, e4])
  have HHK := Hid.mk hk
  have HHF := Hid.mk hf
  clear hc hF hf hr he hr2 he2 hr3 he3 hwt hws hl kW aS hgS hk hel hrs hWS hcw h E c0 c1 c2 c3 d0 d1 d2 d3 e0 e1 e2 e3 hC hC1 hC2 hcwC hcwC1 hcwC2 hA
  go_enter Try.func69, Try.ntmps69
  go_upto_region 1 with fail
  rw [← hWd]
  have HKE : Hid (SX (pF gF gW) B X P w gB cv gc gv G n 0 W gv G) := Hid.mk ⟨HBW.out, SY.keep HKW.out, Ext.refl HBW.out.wf⟩
  generalize w.heap.size = gS at *
  clear hWd
  go_wp2_with fail
  refine HI.out.mono ?_
  rintro e w2 ⟨gv2, G2, gV, wvl, wll, fb2, he9, sx2, fr2, vl2⟩
  rw [hexl] at he9
  subst he9
  have HX2 : Hid (SX (pF gF gW) B X P W gB cv gc gv G n (1028 * nE ex + 4) w2 gv2 G2) := Hid.mk (sx2.wider (fun q _ a => Or.inl a))
  have HF2 := Hid.mk fr2
  have HD : Hid (∀ K Z gv' G', SX (pF gF gW) B X P w2 gB cv gc gv2 G2 n K Z gv' G' → (Z.cell? ⟨gB, 0, none⟩ = some (.pointer (some ⟨gc, 0, none⟩))) ∧ Arr Z gS 109 (SfC f (.slice ea 3 ec) (.slice ta tr.length tc) (.slice la lr.length lc)) ∧ Arr Z gV 96 wvl) := Hid.mk (fun K Z gv' G' s => ⟨s.bs.cells.1, (HX2.out.trans s).arr HAS.out HGS.out.1 HGS.out.2, s.arr vl2.ar (fun a => vl2.nb (Or.inl a)) (fun a => vl2.nb (Or.inr (HPX.out _ a)))⟩)
  have hvl : wvl.length = 3 := by rw [vl2.lv]; exact hexl
  have hwl : wll.length = 3 := by rw [vl2.ll]; exact hexl
  have hk0 : kw ex.ws 0 = 1 := HKW0.out
  have wv0 := vl2.wv 0 (by omega)
  rw [hk0] at wv0
  have wo0 := vl2.wo 0 (by omega) (by omega)
  obtain ⟨va0, vc0, hv0, -, -⟩ := wo0.sh wv0
  rw [hv0] at wo0
  have hg0 : wvl[0]? = some (.slice va0 1 vc0) := by rw [List.getElem?_eq_getElem (by omega), hv0]
  generalize wll[0]'(by omega) = l0 at *
  obtain ⟨vb0, vo0, hva0⟩ := wo0.blk (by rw [wv0.len]; omega)
  subst hva0
  obtain ⟨p0, hp0, bp0⟩ := wv0.first (by omega)
  have HWO0 := Hid.mk wo0
  have HWV0 := Hid.mk wv0
  have HBP0 := Hid.mk bp0
  have HP0 := Hid.mk hp0
  have HVG0 := Hid.mk hg0
  clear hk0 wv0 wo0 hv0 hg0 hp0 bp0
  have hk1 : kw ex.ws 1 = 1 := HKW1.out
  have wv1 := vl2.wv 1 (by omega)
  rw [hk1] at wv1
  have wo1 := vl2.wo 1 (by omega) (by omega)
  obtain ⟨va1, vc1, hv1, -, -⟩ := wo1.sh wv1
  rw [hv1] at wo1
  have hg1 : wvl[1]? = some (.slice va1 1 vc1) := by rw [List.getElem?_eq_getElem (by omega), hv1]
  generalize wll[1]'(by omega) = l1 at *
  obtain ⟨vb1, vo1, hva1⟩ := wo1.blk (by rw [wv1.len]; omega)
  subst hva1
  obtain ⟨p1, hp1, bp1⟩ := wv1.first (by omega)
  have HWO1 := Hid.mk wo1
  have HWV1 := Hid.mk wv1
  have HBP1 := Hid.mk bp1
  have HP1 := Hid.mk hp1
  have HVG1 := Hid.mk hg1
  clear hk1 wv1 wo1 hv1 hg1 hp1 bp1
  have hk2 : kw ex.ws 2 = A := HKW2.out
  have wv2 := vl2.wv 2 (by omega)
  rw [hk2] at wv2
  have wo2 := vl2.wo 2 (by omega) (by omega)
  obtain ⟨va2, vc2, hv2, -, -⟩ := wo2.sh wv2
  rw [hv2] at wo2
  have hg2 : wvl[2]? = some (.slice va2 A vc2) := by rw [List.getElem?_eq_getElem (by omega), hv2]
  generalize wll[2]'(by omega) = l2 at *
  obtain ⟨vb2, vo2, hva2⟩ := wo2.blk (by rw [wv2.len]; omega)
  subst hva2
  obtain ⟨p2, hp2, bp2⟩ := wv2.first (by omega)
  have HWO2 := Hid.mk wo2
  have HWV2 := Hid.mk wv2
  have HBP2 := Hid.mk bp2
  have HP2 := Hid.mk hp2
  have HVG2 := Hid.mk hg2
  clear hk2 wv2 wo2 hv2 hg2 hp2 bp2
  clear sx2 fr2 vl2 hvl hwl HI q0 q1 q2 q3 q4 q5 q6 q7 y0
  obtain ⟨x0, aS, aV⟩ := HD.out _ _ _ _ (ST.refl HX2.out.bs).sx
  obtain ⟨s0, s1, s2, s3, s4, s5, s6, s7⟩ := sfC_cells aS
  rw [HHC.out] at s1
  have sd : w2.drew.cell? ⟨gV, 0, none⟩ = some (.slice (some ⟨vb0, vo0, none⟩) 1 vc0) ∧ w2.drew.cell? ⟨gV, 1, none⟩ = some (.slice (some ⟨vb1, vo1, none⟩) 1 vc1) ∧ w2.drew.cell? ⟨gV, 2, none⟩ = some (.slice (some ⟨vb2, vo2, none⟩) A vc2) ∧ w2.drew.cell? ⟨vb1, vo1, none⟩ = some (.int .i64 (p1 : Nat)) := ⟨(aV.cell 0).trans HVG0.out, (aV.cell 1).trans HVG1.out, (aV.cell 2).trans HVG2.out, HWO1.out.at0 HP1.out⟩
  have se : w2.drew.drew.cell? ⟨gS, 1, none⟩ = some (.int .i64 (C : Nat)) := s1
  clear aS aV s0 s1 s2 s3 s4 s5 s6 s7 x0
  go_wp2_with fail
  go_region_held3 (fun w' => w'.cell? ⟨gV, 0, none⟩ = some (.slice (some ⟨vb0, vo0, none⟩) 1 vc0) ∧ w'.cell? ⟨gV, 1, none⟩ = some (.slice (some ⟨vb1, vo1, none⟩) 1 vc1) ∧ w'.cell? ⟨gV, 2, none⟩ = some (.slice (some ⟨vb2, vo2, none⟩) A vc2) ∧ w'.cell? ⟨vb1, vo1, none⟩ = some (.int .i64 (p1 : Nat))) (with_reducible first | exact sd) (fail)
  rename_i hHd
  clear hHd sd
  go_wp2_with fail
  go_region_held3 (fun w' => w'.cell? ⟨gS, 1, none⟩ = some (.int .i64 (C : Nat))) (with_reducible first | exact se) (fail)
  rename_i hHd
  clear hHd se
  obtain ⟨w3, hW3⟩ : ∃ w3, w3 = w2.drew.drew := ⟨_, rfl⟩
  obtain ⟨gv3, G3, rfl, rfl⟩ : ∃ gv3 G3, gv3 = gv2 ∧ G3 = G2 := ⟨_, _, rfl, rfl⟩
  have HS3 : Hid (ST B X P w2 gB cv gc gv3 G3 n 0 w3 gv3 G3) := Hid.mk (by rw [hW3]; exact ST.keep HX2.out.bs ((Keep.refl w2).drew).drew)
  rw [← hW3]
  clear hW3
  have HF3 := Hid.mk (HS3.out.frm HX2.out.bs HF2.out)
  obtain ⟨mv, lm, hm1, hm2, hm3, hm4⟩ := HF3.out.word HC1.out
  rw [HCW1.out] at hm4
  obtain ⟨ma, mc, hmv, -, -⟩ := hm3.sh hm4
  subst hmv
  have HMO := Hid.mk hm3
  have HMV := Hid.mk hm4
  obtain ⟨nv, ln, hn1, hn2, hn3, hn4⟩ := HF3.out.word HC2.out
  rw [HCW2.out] at hn4
  obtain ⟨na, nc, hnv, -, -⟩ := hn3.sh hn4
  subst hnv
  obtain ⟨nb, no, hna⟩ := hn3.blk (by rw [hn4.len]; omega)
  subst hna
  obtain ⟨pn, hpn, bpn⟩ := hn4.first (by omega)
  have HNO := Hid.mk hn3
  have HNB := Hid.mk bpn
  have HPN := Hid.mk hpn
  have HNC := Hid.mk hn1
  obtain ⟨f0, -, -⟩ := HF3.out.cells
  clear hm2 hm3 hm4 hn1 hn2 hn3 hn4 hpn bpn
  have HLW : Hid (G3.length + 4000 ≤ 600000000) := Hid.mk (by have := HL.out; have := HX2.out.len; have := HNY.out; omega)
  have HSF : Hid (∀ K Z gv' G', ST B X P w3 gB cv gc gv3 G3 n K Z gv' G' → Z.cell? ⟨vb0, vo0, none⟩ = some (.int .i64 (p0 : Nat)) ∧ Z.cell? ⟨gF, oF, none⟩ = some (.slice (some ⟨gW, 0, none⟩) cw.length cw.length) ∧ Z.cell? ⟨gW, C + 2, none⟩ = some (.slice (some ⟨nb, no, none⟩) 1 nc) ∧ Z.cell? ⟨nb, no, none⟩ = some (.int .i64 (pn : Nat))) := Hid.mk (fun K Z gv' G' s => by
    have a1 := (s.frm HS3.out.bs HF3.out).cells.1
    have a2 := (s.frm HS3.out.bs HF3.out).aw.cell (C + 2)
    have a3 := HF3.out.aw.cell (C + 2)
    exact ⟨(s.wo (HS3.out.wo HWO0.out)).at0 HP0.out, a1, by rw [a2, ← a3]; exact HNC.out, (s.wo HNO.out).at0 HPN.out⟩)
  have sd := HSF.out _ _ _ _ (ST.keep HS3.out.bs (Keep.refl w3).drew)
  have C70 := Hid.mk (not_k (HS3.out.bs.keep (Keep.refl w3).drew) HNB.out (by have := HLW.out; omega))
  have H31 : Hid (∀ K Z gv' G' b, ST B X P w3 gB cv gc gv3 G3 n K Z gv' G' → K ≤ 1000 → Bt G' b (fun i => !((S i).at (C + 2)).testBit 0) → Calls Try.prog 31 #[.pointer (some ⟨gc, 0, none⟩), .int .i64 (p0 : Nat), .int .i64 (b : Nat)] Z fun e w' => RB B X P gB cv gc gv' Z G' n 1 (fun i => (kv (evL ex (S i)) 0).testBit 0 && !((S i).at (C + 2)).testBit 0) e w') := Hid.mk (fun K Z gv' G' b s hK bt => and_k s.bs (s.bt (HS3.out.bt HBP0.out)) bt (by have := HLW.out; have := s.len; omega))
  have H90 : Hid (∀ K Z gv' G', ST B X P w3 gB cv gc gv3 G3 n K Z gv' G' → K ≤ 1000 → Calls Try.prog 90 #[.pointer (some ⟨gB, 0, none⟩), .int .i64 (A : Nat)] Z fun e w' => RV B X P gB cv gc gv' Z G' n 64 A (fun _ => (2 ^ A - 1) / 2) e w') := Hid.mk (fun K Z gv' G' s hK => max_k s.bs hA2.1 hA2.2 (by have := HLW.out; have := s.len; omega))
  have H71 : Hid (∀ K Z gv' G' xa xc x, ST B X P w3 gB cv gc gv3 G3 n K Z gv' G' → K ≤ 1000 → WO (fpX gc gv' X) Z (.slice xa A xc) x → Wv G' x A (fun _ => (2 ^ A - 1) / 2) → Calls Try.prog 71 #[.pointer (some ⟨gc, 0, none⟩), .slice ma A mc, .slice xa A xc] Z fun e w' => RB B X P gB cv gc gv' Z G' n 65 (fun i => decide ((S i).at (C + 1) = (2 ^ A - 1) / 2)) e w') := Hid.mk (fun K Z gv' G' xa xc x s hK hx vx => eq_k s.bs (s.wo HMO.out) (s.wv HMV.out) hx vx hA2.1 hA2.2 (by have := HLW.out; have := s.len; omega))
  have H70 : Hid (∀ K Z gv' G' b F, ST B X P w3 gB cv gc gv3 G3 n K Z gv' G' → K ≤ 1000 → Bt G' b F → Calls Try.prog 70 #[.pointer (some ⟨gc, 0, none⟩), .int .i64 (b : Nat)] Z fun e w' => RB B X P gB cv gc gv' Z G' n 1 (fun i => !F i) e w') := Hid.mk (fun K Z gv' G' b F s hK bt => not_k s.bs bt (by have := HLW.out; have := s.len; omega))
  have H31b : Hid (∀ K Z gv' G' a b F E, ST B X P w3 gB cv gc gv3 G3 n K Z gv' G' → K ≤ 1000 → Bt G' a F → Bt G' b E → Calls Try.prog 31 #[.pointer (some ⟨gc, 0, none⟩), .int .i64 (a : Nat), .int .i64 (b : Nat)] Z fun e w' => RB B X P gB cv gc gv' Z G' n 1 (fun i => F i && E i) e w') := Hid.mk (fun K Z gv' G' a b F E s hK ba bb => and_k s.bs ba bb (by have := HLW.out; have := s.len; omega))
  go_wp2_with fail
  go_region_held3 (fun w' => w'.cell? ⟨vb0, vo0, none⟩ = some (.int .i64 (p0 : Nat)) ∧ w'.cell? ⟨gF, oF, none⟩ = some (.slice (some ⟨gW, 0, none⟩) cw.length cw.length) ∧ w'.cell? ⟨gW, C + 2, none⟩ = some (.slice (some ⟨nb, no, none⟩) 1 nc) ∧ w'.cell? ⟨nb, no, none⟩ = some (.int .i64 (pn : Nat))) (with_reducible first | exact sd | exact sd4 | exact sd5 | exact sd6 | exact sd7 | exact sd8 | exact sd9)
    (first
      | ((fail_if_success (have := Q1)); go_at_call 70; refine C70.out.mono ?_; rintro e w4 ⟨gv4, G4, b4, rfl, b9, s9, x9, bt9⟩; have Q1 : True := trivial; have HS4 : Hid (ST B X P w3 gB cv gc gv3 G3 n 1 w4 gv4 G4) := Hid.mk (((ST.keep HS3.out.bs (Keep.refl w3).drew).trans ⟨b9, s9, x9⟩).mono (by omega)); have sd4 := HSF.out _ _ _ _ HS4.out; have C31 := Hid.mk (H31.out _ _ _ _ _ HS4.out (by omega) bt9); clear b9 s9 x9 bt9)
      | ((fail_if_success (have := Q2)); go_at_call 31; refine C31.out.mono ?_; rintro e w5 ⟨gv5, G5, b5, rfl, b9, s9, x9, bt9⟩; have Q2 : True := trivial; have HS5 : Hid (ST B X P w3 gB cv gc gv3 G3 n 2 w5 gv5 G5) := Hid.mk ((HS4.out.trans ⟨b9, s9, x9⟩).mono (by omega)); have HBT5 := Hid.mk bt9; have sd5 := HSF.out _ _ _ _ HS5.out; have C90 := Hid.mk (H90.out _ _ _ _ HS5.out (by omega)); clear b9 s9 x9 bt9)
      | (go_at_call 90; refine C90.out.mono ?_; rintro e w6 ⟨gv6, G6, l6, a6, c6, rfl, b9, s9, x9, wo9, wv9⟩; have HT6 : Hid (ST B X P w5 gB cv gc gv5 G5 n 64 w6 gv6 G6) := Hid.mk ⟨b9, s9, x9⟩; have HS6 := Hid.mk (HS5.out.trans HT6.out); have sd6 := HSF.out _ _ _ _ HS6.out; have C71 := Hid.mk (H71.out _ _ _ _ _ _ _ HS6.out (by omega) wo9 wv9); clear b9 s9 x9 wo9 wv9)
      | (go_at_call 71; refine C71.out.mono ?_; rintro e w7 ⟨gv7, G7, b7, rfl, b9, s9, x9, bt9⟩; have HT7 : Hid (ST B X P w6 gB cv gc gv6 G6 n 65 w7 gv7 G7) := Hid.mk ⟨b9, s9, x9⟩; have HS7 := Hid.mk (HS6.out.trans HT7.out); have sd7 := HSF.out _ _ _ _ HS7.out; have D70 := Hid.mk (H70.out _ _ _ _ _ _ HS7.out (by omega) bt9); clear b9 s9 x9 bt9)
      | (have := Q1; go_at_call 70; refine D70.out.mono ?_; rintro e w8 ⟨gv8, G8, b8, rfl, b9, s9, x9, bt9⟩; have HT8 : Hid (ST B X P w7 gB cv gc gv7 G7 n 1 w8 gv8 G8) := Hid.mk ⟨b9, s9, x9⟩; have HS8 := Hid.mk (HS7.out.trans HT8.out); have sd8 := HSF.out _ _ _ _ HS8.out; have D31 := Hid.mk (H31b.out _ _ _ _ _ _ _ _ HS8.out (by omega) (HT8.out.bt (HT7.out.bt (HT6.out.bt HBT5.out))) bt9); clear b9 s9 x9 bt9)
      | (have := Q2; go_at_call 31; refine D31.out.mono ?_; rintro e w9 ⟨gv9, G9, bc, rfl, b9, s9, x9, bt9⟩; have HT9 : Hid (ST B X P w8 gB cv gc gv8 G8 n 1 w9 gv9 G9) := Hid.mk ⟨b9, s9, x9⟩; have HR9 := Hid.mk (HS8.out.trans HT9.out); have sd9 := HSF.out _ _ _ _ HR9.out; have HBc := Hid.mk bt9; clear b9 s9 x9 bt9))
  rename_i hHd
  clear hHd sd sd4 sd5 sd6 sd7 sd8 sd9 Q1 Q2 f0 hm1
  have HS9 : Hid (ST B X P w2 gB cv gc gv3 G3 n 140 w9 gv9 G9) := Hid.mk ((HS3.out.trans HR9.out).mono (by omega))
  go_wp2_with fail
  refine (const1_k HS9.out.bs A hA2.1 hA2.2 (by have := HL.out; have := HX2.out.len; have := HNY.out; have := HS9.out.len; omega)).mono ?_
  rintro e w10 ⟨gv10, G10, lo, pao, pco, rfl, b9, s9, x9, wo9, wv9⟩
  have HT10 : Hid (ST B X P w9 gB cv gc gv9 G9 n 64 w10 gv10 G10) := Hid.mk ⟨b9, s9, x9⟩
  have HS10 := Hid.mk (HS9.out.trans HT10.out)
  have HWo := Hid.mk wo9
  have HVo := Hid.mk wv9
  clear b9 s9 x9 wo9 wv9
  go_wp2_with fail
  refine (add_k HS10.out.bs (HT10.out.wo (HR9.out.wo HMO.out)) (HT10.out.wv (HR9.out.wv HMV.out)) HWo.out HVo.out hA2.1 hA2.2 (by have := HL.out; have := HX2.out.len; have := HNY.out; have := HS10.out.len; omega)).mono ?_
  rintro e w11 ⟨gv11, G11, lp, pap, pcp, rfl, b9, s9, x9, wo9, wv9⟩
  have HT11 : Hid (ST B X P w10 gB cv gc gv10 G10 n 65 w11 gv11 G11) := Hid.mk ⟨b9, s9, x9⟩
  have HS11 := Hid.mk (HS10.out.trans HT11.out)
  have HWp := Hid.mk wo9
  have HVp := Hid.mk wv9
  clear b9 s9 x9 wo9 wv9
  go_wp2_with fail
  refine (muxW_k HS11.out.bs (HT11.out.bt (HT10.out.bt HBc.out)) HWp.out HVp.out (HT11.out.wo (HT10.out.wo (HR9.out.wo HMO.out))) (HT11.out.wv (HT10.out.wv (HR9.out.wv HMV.out))) hA2.2 (by have := HL.out; have := HX2.out.len; have := HNY.out; have := HS11.out.len; omega)).mono ?_
  rintro e w12 ⟨gv12, G12, lq, paq, pcq, rfl, b9, s9, x9, wo9, wv9⟩
  have HT12 : Hid (ST B X P w11 gB cv gc gv11 G11 n 448 w12 gv12 G12) := Hid.mk ⟨b9, s9, x9⟩
  have HS12 := Hid.mk (HS11.out.trans HT12.out)
  have HWq := Hid.mk wo9
  have HVq := Hid.mk wv9
  clear b9 s9 x9 wo9 wv9
  go_wp2_with fail
  refine (const0_k HS12.out.bs A hA2.1 hA2.2 (by have := HL.out; have := HX2.out.len; have := HNY.out; have := HS12.out.len; omega)).mono ?_
  rintro e w13 ⟨gv13, G13, lz, paz, pcz, rfl, b9, s9, x9, wo9, wv9⟩
  have HT13 : Hid (ST B X P w12 gB cv gc gv12 G12 n 64 w13 gv13 G13) := Hid.mk ⟨b9, s9, x9⟩
  have HS13 := Hid.mk (HS12.out.trans HT13.out)
  have HWz := Hid.mk wo9
  have HVz := Hid.mk wv9
  clear b9 s9 x9 wo9 wv9
  have HB1 : Hid (Bt G13 p1 (fun inp => (kv (evL ex (S inp)) 1).testBit 0)) := Hid.mk (HT13.out.bt (HT12.out.bt (HT11.out.bt (HT10.out.bt (HR9.out.bt (HS3.out.bt HBP1.out))))))
  go_wp2_with fail
  refine (muxW_k HS13.out.bs HB1.out HWz.out HVz.out (HT13.out.wo HWq.out) (HT13.out.wv HVq.out) hA2.2 (by have := HL.out; have := HX2.out.len; have := HNY.out; have := HS13.out.len; omega)).mono ?_
  rintro e w14 ⟨gv14, G14, ly, pay, pcy, rfl, b9, s9, x9, wo9, wv9⟩
  have HT14 : Hid (ST B X P w13 gB cv gc gv13 G13 n 448 w14 gv14 G14) := Hid.mk ⟨b9, s9, x9⟩
  have HS14 := Hid.mk (HS13.out.trans HT14.out)
  have HWy := Hid.mk wo9
  have HVy := Hid.mk wv9
  clear b9 s9 x9 wo9 wv9
  have HVY : Hid (Wv G14 ly A (fun i => if (kv (evL ex (S i)) 1).testBit 0 then 0 else if ((kv (evL ex (S i)) 0).testBit 0 && !((S i).at (C + 2)).testBit 0) && !decide ((S i).at (C + 1) = (2 ^ A - 1) / 2) then wop 0 ((S i).at (C + 1)) 1 A else (S i).at (C + 1))) := Hid.mk (HVy.out.congr (fun inp => rfl))
  have HS314 : Hid (ST B X P w3 gB cv gc gv3 G3 n 1400 w14 gv14 G14) := Hid.mk ((((((HR9.out.trans HT10.out).trans HT11.out).trans HT12.out).trans HT13.out).trans HT14.out).mono (by omega))
  have HF14 := Hid.mk (HS314.out.frm HS3.out.bs HF3.out)
  have sd : w14.drew.cell? ⟨gF, oF, none⟩ = some (.slice (some ⟨gW, 0, none⟩) cw.length cw.length) := HF14.out.cells.1
  have C73 := Hid.mk (slt_k (HS14.out.bs.keep (Keep.refl w14).drew) (HWy.out.stepX (Stp.keep (Keep.refl w14).drew)) HVY.out ((HS314.out.wo (HS3.out.wo HWO2.out)).stepX (Stp.keep (Keep.refl w14).drew)) (HS314.out.wv (HS3.out.wv HWV2.out)) hA2.1 hA2.2 (by have := HLW.out; have := HS314.out.len; omega))
  have D70 : Hid (∀ Z gv' G' b F, ST B X P w14 gB cv gc gv14 G14 n 65 Z gv' G' → Bt G' b F → Calls Try.prog 70 #[.pointer (some ⟨gc, 0, none⟩), .int .i64 (b : Nat)] Z fun e w' => RB B X P gB cv gc gv' Z G' n 1 (fun i => !F i) e w') := Hid.mk (fun Z gv' G' b F s bt => not_k s.bs bt (by have := HLW.out; have := HS314.out.len; have := s.len; omega))
  have HFIN : Hid (∀ K w5 gv5 G5 b5, ST B X P w14 gB cv gc gv14 G14 n K w5 gv5 G5 → Bt G5 b5 (fun i => !decide (sgn (if (kv (evL ex (S i)) 1).testBit 0 then 0 else if ((kv (evL ex (S i)) 0).testBit 0 && !((S i).at (C + 2)).testBit 0) && !decide ((S i).at (C + 1) = (2 ^ A - 1) / 2) then wop 0 ((S i).at (C + 1)) 1 A else (S i).at (C + 1)) A < sgn (kv (evL ex (S i)) 2) A)) → (FRM X gc gv5 ((w5.alloc (.cells #[.int .i64 (b5 : Nat)] 46)).setCell ⟨gW, C, none⟩ (.slice (some ⟨w5.heap.size, 0, none⟩) 1 1)) G5 gF oF gW ty cs cw (fun inp => (⟨(S inp).cells, (S inp).fault || anyF (evL ex (S inp))⟩ : PS).put C (!decide (sgn (if (kv (evL ex (S inp)) 1).testBit 0 then 0 else if ((kv (evL ex (S inp)) 0).testBit 0 && !((S inp).at (C + 2)).testBit 0) && !decide ((S inp).at (C + 1) = (2 ^ A - 1) / 2) then wop 0 ((S inp).at (C + 1)) 1 A else (S inp).at (C + 1)) A < sgn (kv (evL ex (S inp)) 2) A)).toNat) (vs.set C (.slice (some ⟨w5.heap.size, 0, none⟩) 1 1)) (ls.set C [b5]) fb2 ∧ SX (pF gF gW) B X P w14 gB cv gc gv14 G14 n K ((w5.alloc (.cells #[.int .i64 (b5 : Nat)] 46)).setCell ⟨gW, C, none⟩ (.slice (some ⟨w5.heap.size, 0, none⟩) 1 1)) gv5 G5) ∧ w5.cell? ⟨gF, oF, none⟩ = some (.slice (some ⟨gW, 0, none⟩) cw.length cw.length) ∧ (w5.alloc (.cells #[.int .i64 (b5 : Nat)] 46)).cell? ⟨gF, oF, none⟩ = some (.slice (some ⟨gW, 0, none⟩) cw.length cw.length) ∧ ((w5.alloc (.cells #[.int .i64 (b5 : Nat)] 46)).setCell ⟨gW, C, none⟩ (.slice (some ⟨w5.heap.size, 0, none⟩) 1 1)).cell? ⟨gF, oF, none⟩ = some (.slice (some ⟨gW, 0, none⟩) cw.length cw.length) ∧ ∃ ua uc, (w5.alloc (.cells #[.int .i64 (b5 : Nat)] 46)).cell? ⟨gW, C, none⟩ = some (.slice ua 1 uc) ∧ (w5.alloc (.cells #[.int .i64 (b5 : Nat)] 46)).frozen? ⟨gW, C, none⟩ = false ∧ gW ≠ w5.heap.size) := Hid.mk (fun K w5 gv5 G5 b5 s bt => by
    have fa := ((s.alloc (.cells #[.int .i64 (b5 : Nat)] 46)).frm HS14.out.bs HF14.out)
    have fp := fa.put (i := C) (by have := HC1.out; omega) (s.bs.lit b5) (by rw [HCW0.out]; exact bt.word)
    obtain ⟨v9, l9, g1, g2, g3, g4⟩ := fa.word (i := C) (by have := HC1.out; omega)
    rw [HCW0.out] at g4
    obtain ⟨a9, c9, e9, -, -⟩ := g3.sh g4
    rw [e9] at g1
    exact ⟨⟨fp, SX.put (s.alloc _).sx fa C _⟩, (s.frm HS14.out.bs HF14.out).cells.1, fa.cells.1, fp.cells.1, a9, c9, g1, g2, fun e => by have := (s.bs.hX gW (HPX.out gW (Or.inr rfl))); omega⟩)
  go_wp2_with fail
  go_region_held3 (fun w' => w'.cell? ⟨gF, oF, none⟩ = some (.slice (some ⟨gW, 0, none⟩) cw.length cw.length)) (with_reducible first | exact sd | exact sd4 | exact sd5 | exact sd6 | exact sd7)
    (first
      | (go_at_call 73; refine C73.out.mono ?_; rintro e w15 ⟨gv15, G15, b15, rfl, b9, s9, x9, bt9⟩; have HT15 : Hid (ST B X P w14 gB cv gc gv14 G14 n 65 w15 gv15 G15) := Hid.mk (((ST.keep HS14.out.bs (Keep.refl w14).drew).trans ⟨b9, s9, x9⟩).mono (by omega)); have sd4 := (HT15.out.frm HS14.out.bs HF14.out).cells.1; have E70 := Hid.mk (D70.out _ _ _ _ _ HT15.out bt9); clear b9 s9 x9 bt9)
      | (go_at_call 70; refine E70.out.mono ?_; rintro e w16 ⟨gv16, G16, b16, rfl, b9, s9, x9, bt9⟩; have HT16 : Hid (ST B X P w14 gB cv gc gv14 G14 n (65 + 1) w16 gv16 G16) := Hid.mk (HT15.out.trans ⟨b9, s9, x9⟩); have HBT16 := Hid.mk bt9; obtain ⟨-, sd5, sd6, sd7, ua9, uc9, uc1, uc2, uc3⟩ := HFIN.out _ _ _ _ _ HT16.out bt9; clear b9 s9 x9 bt9))
  rename_i hHd
  clear hHd sd sd4 sd5 sd6 sd7 uc1 uc2 uc3
  obtain ⟨⟨fp, sp⟩, -⟩ := HFIN.out _ _ _ _ _ HT16.out HBT16.out
  have HFP := Hid.mk fp
  have HSP := Hid.mk sp
  generalize (w16.alloc (.cells #[.int .i64 (b16 : Nat)] 46)).setCell ⟨gW, C, none⟩ (.slice (some ⟨w16.heap.size, 0, none⟩) 1 1) = w17 at *
  obtain ⟨f0, -, -⟩ := fp.cells
  obtain ⟨u6, l6', g1, g2, g3, g4⟩ := fp.word HC1.out
  rw [HCW1.out] at g4
  obtain ⟨a9, c9, e9, -, -⟩ := g3.sh g4
  subst e9
  have HX17 := Hid.mk ((HX2.out.trans (HS14.out.sx (Y := pF gF gW))).trans sp)
  have hf18 := fp.put HC1.out (HSP.out.wo HPX.out HWy.out) (by rw [HCW1.out]; exact HSP.out.wv HVY.out)
  have HF18 := Hid.mk hf18
  have HX18 := Hid.mk (SX.put HX17.out fp (C + 1) (.slice pay A pcy))
  have HY18 := Hid.mk (SX.put ((HS14.out.sx (Y := pF gF gW)).trans sp) fp (C + 1) (.slice pay A pcy))
  clear fp sp hf18 g3 g4
  go_upto_region 12 with fail
  generalize w17.setCell ⟨gW, C + 1, none⟩ (.slice pay A pcy) = w18 at *
  clear f0 g1 g2
  obtain ⟨f0, -, -⟩ := HF18.out.cells
  obtain ⟨u6, l6', g1, g2, g3, g4⟩ := HF18.out.word HC2.out
  rw [HCW2.out] at g4
  obtain ⟨a8, c8, e8, -, -⟩ := g3.sh g4
  subst e8
  have hfin := HF18.out.put HC2.out (HY18.out.wo HPX.out HWO0.out) (by rw [HCW2.out]; exact HY18.out.wv HWV0.out)
  have HF19 := Hid.mk hfin
  have HX19 := Hid.mk (SX.put HX18.out HF18.out (C + 2) (.slice (some ⟨vb0, vo0, none⟩) 1 vc0))
  clear g3 g4 hfin
  go_wp2_with fail
  go_end0
  exact ⟨gv16, G16, _, _, _, rfl, (HKE.out.trans HX19.out).mono (by have := HNY.out; omega), HF19.out.congr (fun inp => by rw [HRX.out])⟩
end Go.Proofs.Qxb6500772a
