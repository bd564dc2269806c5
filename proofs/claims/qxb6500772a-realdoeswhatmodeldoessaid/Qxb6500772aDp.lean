/- blast: rTrig. -/
import Derived.Test.Qxb6500772aDo
import Derived.Test.Qxb6500772aLf
import Derived.Deep.RegionHeld3
namespace Go.Proofs.Qxb6500772a
open Go.RowKit Go.Qm
set_option linter.unusedVariables false
set_option linter.unusedSimpArgs false
attribute [local go_sem ↓] Go.wp_at_zero Go.wp_at_succ
set_option maxRecDepth 8000 in
set_option maxHeartbeats 8000000 in
theorem rTrig_c {P : Nat → Prop} {cels : List Cel} {f : SF} {ex : EL} {th el : SL} (hcl : cels.length ≤ 1000000) (hWS : WsOK (cels.map (·.w))) (hk : f.k = 4) : OC 67 P cels f ex th el := by
  intro B X w gB cv gc gv G n gF oF gW ty cs S vs ls fb ev tv lv er tr lr h hc hF hf hr he hr2 he2 hr3 he3 hwt hws hl
  have hwk : (ex.ws = [1] ∧ wtCells (cels.map (·.w)) f.c 2 1) := by
    rw [wtS1, hk] at hws
    rcases hws with ⟨a, h9⟩ | ⟨a, h9⟩ | ⟨a, h9⟩ | ⟨a, h9⟩ | ⟨a, h9⟩ | ⟨a, h9⟩ | ⟨a, h9⟩
    · exact absurd a (by decide)
    · exact absurd a (by decide)
    · exact absurd a (by decide)
    · exact absurd a (by decide)
    · exact h9
    · exact absurd a (by decide)
    · exact absurd a (by decide)
  obtain ⟨E, c0, c1, c2, c3⟩ := hwk
  have HC := Hid.mk hc
  have hcl2 : (cels.map (·.w)).length ≤ 1000000 := by rw [List.length_map]; exact hcl
  generalize hcw : cels.map (·.w) = cw at *
  have hexl : ex.toL.length = 1 := by have := ws_len ex; rw [E] at this; simpa [EL.len] using this.symm
  have hrs := hr.step (KP.of (Keep.refl w))
  obtain ⟨ea, ec, hev, ev1, ev2⟩ := hr.form
  obtain ⟨ta, tc, htv, tv1, tv2⟩ := hr2.form
  obtain ⟨la, lc, hlv, lv1, lv2⟩ := hr3.form
  have hel := he.len
  rw [hel] at hev ev1
  unfold EL.len at hev ev1
  rw [hexl] at hev ev1
  subst hev htv hlv
  unfold maxLen at ev2 tv2 lv2
  obtain ⟨W, hWd⟩ : ∃ W, W = w.alloc (.cells #[.int .i64 f.k, .int .i64 f.c, .int .i64 f.l, .int .i64 f.a, .int .i64 f.b, .slice ea 1 ec, .slice ta tr.length tc, .slice la lr.length lc] 109) := ⟨_, rfl⟩
  have kW : Keep w W := by rw [hWd]; exact (Keep.refl w).alloc _
  have aS : Arr W w.heap.size 109 (SfC f (.slice ea 1 ec) (.slice ta tr.length tc) (.slice la lr.length lc)) := by rw [hWd]; exact Arr.new w 109 _
  have HBW := Hid.mk (h.keep kW)
  have HFW := Hid.mk (hF.keep kW)
  have HKW := Hid.mk kW
  have HAS := Hid.mk aS
  have hgS : ¬ fpC gc gv w.heap.size ∧ ¬ pF gF gW w.heap.size := ⟨fun a => by have := (h.cc.flt a).2; omega, fun a => by
    have h1 := h.hX _ hF.xf
    have h2 := h.hX _ hF.xw
    rcases a with a | a <;> omega⟩
  have HGS := Hid.mk hgS
  have HL := Hid.mk hl
  have HNY := Hid.mk (nY_pos f ex th el)
  have HWS := Hid.mk hWS
  have HPX := Hid.mk (pFX hF)
  have HRT := Hid.mk (hr2.step (KP.of kW))
  have HET := Hid.mk (he2.step (KP.of kW))
  have HRL := Hid.mk (hr3.step (KP.of kW))
  have HELS := Hid.mk (he3.step (KP.of kW))
  have HLTE : Hid (∀ inp i, i < 1 → 1 ≤ ex.ws.getD i 0 ∧ ex.ws.getD i 0 ≤ 64 ∧ kv (evL ex (S inp)) i < 2 ^ kw ex.ws i) := Hid.mk (fun inp i hi => evL_lt (hF.ok inp) hwt i (by omega))
  have HI := Hid.mk (inputs_c (h.keep kW) (hF.keep kW) hWS hcl2 f (er := er) hr2.sl hr3.sl (hr.step (KP.of kW)) (he.step (KP.of kW)) hwt (by omega) (by have := nY_pos f ex th el; omega))
  obtain ⟨q0, q1, q2, q3, q4, q5, q6, q7⟩ := sfC_cells aS
  obtain ⟨y0, -⟩ := (h.keep kW).cells
  have HOK : Hid (∀ inp, StOK cw (S inp)) := Hid.mk (fun inp => hF.ok inp)
  have HCWE := Hid.mk hcw
  simp only [sfA] at HI ⊢
  obtain ⟨C, hC⟩ : ∃ C : Nat, f.c = C := ⟨f.c.toNat, by omega⟩
  have hC1 : C + 1 < cw.length := by omega
  have HKW0 : Hid (kw ex.ws 0 = 1) := Hid.mk (by rw [E]; rfl)
  have hcwC : (cw.getD C 0).toNat = 1 := by have := c3 0 (by decide); rw [show f.c.toNat + 0 = C by rw [hC]; rfl] at this; rw [this]; rfl
  have hcwC1 : (cw.getD (C + 1) 0).toNat = 1 := by have := c3 1 (by decide); rw [show f.c.toNat + 1 = C + 1 by rw [hC]; rfl] at this; rw [this]; rfl
  have HCW0 := Hid.mk hcwC
  have HCW1 := Hid.mk hcwC1
  have HHC := Hid.mk hC
  have HC1 := Hid.mk hC1
  have m1 : (C : Int) < cw.length := by omega
  have m2 : (0 : Int) ≤ C := by omega
  have m3 : (C : Int) + 1 < cw.length := by omega
  have m4 : (0 : Int) ≤ (C : Int) + 1 := by omega
  have m5 : (C : Int) ≤ 1000000 := by omega
  have mw : IntKind.i64.wrap ((C : Int) + 1) = (C : Int) + 1 := by rw [IntKind.wrap_i64]; omega
  have mt : ((C : Int) + 1).toNat = C + 1 := by omega
  have HRX : Hid (∀ inp, exX cw (S inp) (f, ex, th, el) = ((⟨(S inp).cells, (S inp).fault || anyF (evL ex (S inp))⟩ : PS).put C (decide (kv (evL ex (S inp)) 0 = 1 ∧ (S inp).at (C + 1) = 0)).toNat).put (C + 1) (kv (evL ex (S inp)) 0)) := Hid.mk (fun inp => by
    simp only [exX, exOne, hk, hC]
    rfl)
  have HHK := Hid.mk hk
  have HHF := Hid.mk hf
  clear hc hF hf hr he hr2 he2 hr3 he3 hwt hws hl kW aS hgS hk hel hrs hWS hcw h E c0 c1 c2 c3 hC hC1 hcwC hcwC1
  go_enter Try.func67, Try.ntmps67
  go_upto_region 1 with fail
  rw [← hWd]
  have HKE : Hid (SX (pF gF gW) B X P w gB cv gc gv G n 0 W gv G) := Hid.mk ⟨HBW.out, SY.keep HKW.out, Ext.refl HBW.out.wf⟩
  generalize w.heap.size = gS at *
  clear hWd
  go_wp2_with fail
  refine HI.out.mono ?_
  rintro e w2 ⟨gv2, G2, gV, wvl, wll, fb2, he9, sx2, fr2, vl2⟩
  rw [hexl] at he9
  subst he9
  have HX2 : Hid (SX (pF gF gW) B X P W gB cv gc gv G n (1028 * nE ex + 4) w2 gv2 G2) := Hid.mk (sx2.wider (fun q _ a => Or.inl a))
  have HF2 := Hid.mk fr2
  have HD : Hid (∀ K Z gv' G', SX (pF gF gW) B X P w2 gB cv gc gv2 G2 n K Z gv' G' → (Z.cell? ⟨gB, 0, none⟩ = some (.pointer (some ⟨gc, 0, none⟩))) ∧ Arr Z gS 109 (SfC f (.slice ea 1 ec) (.slice ta tr.length tc) (.slice la lr.length lc)) ∧ Arr Z gV 96 wvl) := Hid.mk (fun K Z gv' G' s => ⟨s.bs.cells.1, (HX2.out.trans s).arr HAS.out HGS.out.1 HGS.out.2, s.arr vl2.ar (fun a => vl2.nb (Or.inl a)) (fun a => vl2.nb (Or.inr (HPX.out _ a)))⟩)
  have hvl : wvl.length = 1 := by rw [vl2.lv]; exact hexl
  have hwl : wll.length = 1 := by rw [vl2.ll]; exact hexl
  have hk0 : kw ex.ws 0 = 1 := HKW0.out
  have wv0 := vl2.wv 0 (by omega)
  rw [hk0] at wv0
  have wo0 := vl2.wo 0 (by omega) (by omega)
  obtain ⟨va0, vc0, hv0, -, -⟩ := wo0.sh wv0
  rw [hv0] at wo0
  have hg0 : wvl[0]? = some (.slice va0 1 vc0) := by rw [List.getElem?_eq_getElem (by omega), hv0]
  generalize wll[0]'(by omega) = l0 at *
  obtain ⟨vb0, vo0, hva0⟩ := wo0.blk (by rw [wv0.len]; omega)
  subst hva0
  obtain ⟨p0, hp0, bp0⟩ := wv0.first (by omega)
  have HWO0 := Hid.mk wo0
  have HWV0 := Hid.mk wv0
  have HBP0 := Hid.mk bp0
  have HP0 := Hid.mk hp0
  have HVG0 := Hid.mk hg0
  clear hk0 wv0 wo0 hv0 hg0 hp0 bp0
  clear sx2 fr2 vl2 hvl hwl HI q0 q1 q2 q3 q4 q5 q6 q7 y0
  obtain ⟨x0, aS, aV⟩ := HD.out _ _ _ _ (ST.refl HX2.out.bs).sx
  obtain ⟨s0, s1, s2, s3, s4, s5, s6, s7⟩ := sfC_cells aS
  rw [HHC.out] at s1
  have v0 : w2.cell? ⟨gV, 0, none⟩ = some (.slice (some ⟨vb0, vo0, none⟩) 1 vc0) := (aV.cell 0).trans HVG0.out
  have sd : w2.drew.cell? ⟨gS, 1, none⟩ = some (.int .i64 (C : Nat)) := s1
  clear aS aV
  go_wp2_with fail
  go_region_held3 (fun w' => w'.cell? ⟨gS, 1, none⟩ = some (.int .i64 (C : Nat))) (with_reducible first | exact sd) (fail)
  rename_i hHd
  clear hHd sd v0 x0 s0 s1 s2 s3 s4 s5 s6 s7
  obtain ⟨W3, hW3⟩ : ∃ W3, W3 = w2.drew := ⟨_, rfl⟩
  have HS3 : Hid (ST B X P w2 gB cv gc gv2 G2 n 0 W3 gv2 G2) := Hid.mk (by rw [hW3]; exact ST.keep HX2.out.bs (Keep.refl w2).drew)
  rw [← hW3]
  clear hW3
  have HF3 := Hid.mk (HS3.out.frm HX2.out.bs HF2.out)
  obtain ⟨mv, lm, hm1, hm2, hm3, hm4⟩ := HF3.out.word HC1.out
  rw [HCW1.out] at hm4
  obtain ⟨ma, mc, hmv, -, -⟩ := hm3.sh hm4
  subst hmv
  obtain ⟨mb, mo, hma⟩ := hm3.blk (by rw [hm4.len]; omega)
  subst hma
  obtain ⟨pm, hpm, bpm⟩ := hm4.first (by omega)
  have HMO := Hid.mk hm3
  have HMB := Hid.mk bpm
  have HPM := Hid.mk hpm
  have HMC := Hid.mk hm1
  have HSF : Hid (∀ K Z gv' G', ST B X P W3 gB cv gc gv2 G2 n K Z gv' G' → Z.cell? ⟨gF, oF, none⟩ = some (.slice (some ⟨gW, 0, none⟩) cw.length cw.length) ∧ Z.cell? ⟨gB, 0, none⟩ = some (.pointer (some ⟨gc, 0, none⟩)) ∧ Z.cell? ⟨vb0, vo0, none⟩ = some (.int .i64 (p0 : Nat)) ∧ Z.cell? ⟨gW, C + 1, none⟩ = some (.slice (some ⟨mb, mo, none⟩) 1 mc) ∧ Z.cell? ⟨mb, mo, none⟩ = some (.int .i64 (pm : Nat))) := Hid.mk (fun K Z gv' G' s => by
    have a1 := (s.frm HS3.out.bs HF3.out).cells.1
    have a2 := (s.frm HS3.out.bs HF3.out).aw.cell (C + 1)
    have a3 := HF3.out.aw.cell (C + 1)
    exact ⟨a1, s.bs.cells.1, (s.wo (HS3.out.wo HWO0.out)).at0 HP0.out, by rw [a2, ← a3]; exact HMC.out, (s.wo HMO.out).at0 HPM.out⟩)
  have sd := HSF.out _ _ _ _ (ST.keep HS3.out.bs (Keep.refl W3).drew)
  have C70 := Hid.mk (not_k (HS3.out.bs.keep (Keep.refl W3).drew) HMB.out (by have := HL.out; have := HX2.out.len; have := HNY.out; omega))
  have H31 : Hid (∀ w4 gv4 G4 b4, ST B X P W3 gB cv gc gv2 G2 n 1 w4 gv4 G4 → Bt G4 b4 (fun i => !((S i).at (C + 1)).testBit 0) → Calls Try.prog 31 #[.pointer (some ⟨gc, 0, none⟩), .int .i64 (p0 : Nat), .int .i64 (b4 : Nat)] w4 fun e w' => RB B X P gB cv gc gv4 w4 G4 n 1 (fun i => (kv (evL ex (S i)) 0).testBit 0 && !((S i).at (C + 1)).testBit 0) e w') := Hid.mk (fun w4 gv4 G4 b4 s bt => and_k s.bs (s.bt (HS3.out.bt HBP0.out)) bt (by have := HL.out; have := HX2.out.len; have := HNY.out; have := s.len; omega))
  have HFIN : Hid (∀ w5 gv5 G5 b5, ST B X P W3 gB cv gc gv2 G2 n 2 w5 gv5 G5 → Bt G5 b5 (fun i => (kv (evL ex (S i)) 0).testBit 0 && !((S i).at (C + 1)).testBit 0) → FRM X gc gv5 ((w5.alloc (.cells #[.int .i64 (b5 : Nat)] 46)).setCell ⟨gW, C, none⟩ (.slice (some ⟨w5.heap.size, 0, none⟩) 1 1)) G5 gF oF gW ty cs cw (fun inp => (⟨(S inp).cells, (S inp).fault || anyF (evL ex (S inp))⟩ : PS).put C ((kv (evL ex (S inp)) 0).testBit 0 && !((S inp).at (C + 1)).testBit 0).toNat) (vs.set C (.slice (some ⟨w5.heap.size, 0, none⟩) 1 1)) (ls.set C [b5]) fb2 ∧ SX (pF gF gW) B X P W3 gB cv gc gv2 G2 n 2 ((w5.alloc (.cells #[.int .i64 (b5 : Nat)] 46)).setCell ⟨gW, C, none⟩ (.slice (some ⟨w5.heap.size, 0, none⟩) 1 1)) gv5 G5) := Hid.mk (fun w5 gv5 G5 b5 s bt => by
    have fa := ((s.alloc (.cells #[.int .i64 (b5 : Nat)] 46)).frm HS3.out.bs HF3.out)
    have fp := fa.put (i := C) (by have := HC1.out; omega) (s.bs.lit b5) (by rw [HCW0.out]; exact bt.word)
    exact ⟨fp, SX.put (s.alloc _).sx fa C _⟩)
  have HSE : Hid (∀ w5 gv5 G5 b5, ST B X P W3 gB cv gc gv2 G2 n 2 w5 gv5 G5 → Bt G5 b5 (fun i => (kv (evL ex (S i)) 0).testBit 0 && !((S i).at (C + 1)).testBit 0) → ((w5.alloc (.cells #[.int .i64 (b5 : Nat)] 46)).setCell ⟨gW, C, none⟩ (.slice (some ⟨w5.heap.size, 0, none⟩) 1 1)).cell? ⟨gF, oF, none⟩ = some (.slice (some ⟨gW, 0, none⟩) cw.length cw.length) ∧ ((w5.alloc (.cells #[.int .i64 (b5 : Nat)] 46)).setCell ⟨gW, C, none⟩ (.slice (some ⟨w5.heap.size, 0, none⟩) 1 1)).cell? ⟨gB, 0, none⟩ = some (.pointer (some ⟨gc, 0, none⟩)) ∧ ((w5.alloc (.cells #[.int .i64 (b5 : Nat)] 46)).setCell ⟨gW, C, none⟩ (.slice (some ⟨w5.heap.size, 0, none⟩) 1 1)).cell? ⟨vb0, vo0, none⟩ = some (.int .i64 (p0 : Nat)) ∧ ((w5.alloc (.cells #[.int .i64 (b5 : Nat)] 46)).setCell ⟨gW, C, none⟩ (.slice (some ⟨w5.heap.size, 0, none⟩) 1 1)).cell? ⟨gW, C + 1, none⟩ = some (.slice (some ⟨mb, mo, none⟩) 1 mc) ∧ ((w5.alloc (.cells #[.int .i64 (b5 : Nat)] 46)).setCell ⟨gW, C, none⟩ (.slice (some ⟨w5.heap.size, 0, none⟩) 1 1)).cell? ⟨mb, mo, none⟩ = some (.int .i64 (pm : Nat))) := Hid.mk (fun w5 gv5 G5 b5 s bt => by
    obtain ⟨fp, sp⟩ := HFIN.out w5 gv5 G5 b5 s bt
    have a2 := fp.aw.cell (C + 1)
    have a3 := HF3.out.aw.cell (C + 1)
    rw [List.getElem?_set_ne (by omega)] at a2
    exact ⟨fp.cells.1, sp.bs.cells.1, (sp.wo HPX.out (HS3.out.wo HWO0.out)).at0 HP0.out, by rw [a2, ← a3]; exact HMC.out, (sp.wo HPX.out HMO.out).at0 HPM.out⟩)
  have HFZ : Hid (∀ w5 gv5 G5, ST B X P W3 gB cv gc gv2 G2 n 2 w5 gv5 G5 → ∀ o, (w5.alloc o).frozen? ⟨gW, C, none⟩ = false) := Hid.mk (fun w5 gv5 G5 s o => ((s.alloc o).frm HS3.out.bs HF3.out).aw.frozen C)
  have HWC : Hid (∀ w5 gv5 G5, ST B X P W3 gB cv gc gv2 G2 n 2 w5 gv5 G5 → ∃ ua uc, w5.cell? ⟨gW, C, none⟩ = some (.slice ua 1 uc) ∧ w5.frozen? ⟨gW, C, none⟩ = false ∧ gW ≠ w5.heap.size) := Hid.mk (fun w5 gv5 G5 s => by
    obtain ⟨v9, l9, g1, g2, g3, g4⟩ := (s.frm HS3.out.bs HF3.out).word (i := C) (by have := HC1.out; omega)
    rw [HCW0.out] at g4
    obtain ⟨a9, c9, e9, -, -⟩ := g3.sh g4
    rw [e9] at g1
    exact ⟨a9, c9, g1, g2, fun e => by have := (s.bs.hX gW (HPX.out gW (Or.inr rfl))); omega⟩)
  clear hm1 hm2 hm3 hm4 hpm bpm
  go_wp2_with fail
  go_region_held3 (fun w' => w'.cell? ⟨gF, oF, none⟩ = some (.slice (some ⟨gW, 0, none⟩) cw.length cw.length) ∧ w'.cell? ⟨gB, 0, none⟩ = some (.pointer (some ⟨gc, 0, none⟩)) ∧ w'.cell? ⟨vb0, vo0, none⟩ = some (.int .i64 (p0 : Nat)) ∧ w'.cell? ⟨gW, C + 1, none⟩ = some (.slice (some ⟨mb, mo, none⟩) 1 mc) ∧ w'.cell? ⟨mb, mo, none⟩ = some (.int .i64 (pm : Nat))) (with_reducible first | exact sd | exact sd4 | exact sd5 | exact sd6 | exact sd7)
    (first
      | (go_at_call 70; refine C70.out.mono ?_; rintro e w4 ⟨gv4, G4, b4, rfl, b9, s9, x9, bt9⟩; have HS4 : Hid (ST B X P W3 gB cv gc gv2 G2 n 1 w4 gv4 G4) := Hid.mk (((ST.keep HS3.out.bs (Keep.refl W3).drew).trans ⟨b9, s9, x9⟩).mono (by omega)); have sd4 := HSF.out _ _ _ _ HS4.out; have C31 := Hid.mk (H31.out _ _ _ _ HS4.out bt9); clear b9 s9 x9 bt9)
      | (go_at_call 31; refine C31.out.mono ?_; rintro e w5 ⟨gv5, G5, b5, rfl, b9, s9, x9, bt9⟩; have HS5 : Hid (ST B X P W3 gB cv gc gv2 G2 n 2 w5 gv5 G5) := Hid.mk ((HS4.out.trans ⟨b9, s9, x9⟩).mono (by omega)); have HBT5 := Hid.mk bt9; have sd5 := HSF.out _ _ _ _ HS5.out; have sd6 := HSF.out _ _ _ _ (HS5.out.alloc (.cells #[.int .i64 (b5 : Nat)] 46)); have sd7 := HSE.out _ _ _ _ HS5.out bt9; obtain ⟨ua9, uc9, uc1', uc2', uc3⟩ := HWC.out _ _ _ HS5.out; have uc1 := ((Keep.refl w5).alloc (.cells #[.int .i64 (b5 : Nat)] 46)).cell uc1'; have uc2 : (w5.alloc (.cells #[.int .i64 (b5 : Nat)] 46)).frozen? ⟨gW, C, none⟩ = false := HFZ.out _ _ _ HS5.out _; clear b9 s9 x9 bt9))
  rename_i hHd
  clear hHd sd sd4 sd5 sd6 sd7 uc1 uc2 uc3 uc1' uc2'
  obtain ⟨fp, sp⟩ := HFIN.out _ _ _ _ HS5.out HBT5.out
  have HFP := Hid.mk fp
  have HSP := Hid.mk sp
  generalize (w5.alloc (.cells #[.int .i64 (b5 : Nat)] 46)).setCell ⟨gW, C, none⟩ (.slice (some ⟨w5.heap.size, 0, none⟩) 1 1) = W6 at *
  obtain ⟨f0, f1, f2⟩ := fp.cells
  obtain ⟨u6, l6, g1, g2, -, -⟩ := fp.word HC1.out
  have hfin := fp.put HC1.out (HSP.out.wo HPX.out (HS3.out.wo HWO0.out)) (by rw [HCW1.out]; exact HSP.out.wv (HS3.out.wv HWV0.out))
  have HFIN2 := Hid.mk hfin
  have HSX2 := Hid.mk (SX.put (HX2.out.trans (HS3.out.sx.trans sp)) fp (C + 1) (.slice (some ⟨vb0, vo0, none⟩) 1 vc0))
  clear fp sp hfin
  go_wp2_with fail
  go_end0
  refine ⟨gv5, G5, _, _, _, rfl, (HKE.out.trans HSX2.out).mono (by have := HNY.out; omega), HFIN2.out.congr (fun inp => ?_)⟩
  rw [HRX.out]
  have h1 := (HLTE.out inp 0 (by decide)).2.2
  rw [HKW0.out] at h1
  have h2 := (HOK.out inp).2 (C + 1) HC1.out
  rw [HCW1.out] at h2
  congr 2
  have h3 : kv (evL ex (S inp)) 0 < 2 := h1
  have h4 : (S inp).at (C + 1) < 2 := h2
  rw [bitOf h3, bitOf h4]
  rcases (show (S inp).at (C + 1) = 0 ∨ (S inp).at (C + 1) = 1 by omega) with h5 | h5 <;> simp [h5]
end Go.Proofs.Qxb6500772a
