/- blast: store. -/
import Derived.Test.Qxb6500772aDo
import Derived.Test.Qxb6500772aEa
import Derived.Test.Qxb6500772aLf
import Derived.Deep.RegionHeld3
namespace Go.Proofs.Qxb6500772a
open Go.RowKit Go.Qm
set_option linter.unusedVariables false
set_option linter.unusedSimpArgs false
attribute [local go_sem ↓] Go.wp_at_zero Go.wp_at_succ
/-- The fold of Store. -/
def stV (x : PS) (v : Int) (C k y : Nat) : PS := if 0 ≤ v ∧ v < (k : Int) then x.put (C + v.toNat) y else x
theorem stV_next (x : PS) (v : Int) (C k y : Nat) (h : C + k < x.cells.length) : stV x v C (k + 1) y = (stV x v C k y).put (C + k) (if decide (v = (k : Int)) then y else (stV x v C k y).at (C + k)) := by
  unfold stV
  by_cases e : v = (k : Int)
  · subst e
    rw [if_pos (by omega), if_neg (by omega)]
    simp
  · simp only [e, decide_false, Bool.false_eq_true, if_false]
    have self : ∀ z : PS, C + k < z.cells.length → z.put (C + k) (z.at (C + k)) = z := fun z hz => by
      obtain ⟨c, f⟩ := z
      simp only [PS.put, PS.at]
      congr 1
      simp only at hz
      apply List.ext_getElem?
      intro i
      rw [List.getElem?_set]
      split
      · rename_i h1; subst h1; simp [hz, List.getD_eq_getElem?_getD]
      · rfl
    by_cases h2 : 0 ≤ v ∧ v < (k : Int)
    · rw [if_pos (by omega), if_pos h2, self _ (by simp [PS.put]; exact h)]
    · rw [if_neg (by omega), if_neg h2, self _ h]
theorem stV_skip (x : PS) (v : Int) (C k y : Nat) (e : v ≠ (k : Int)) : stV x v C (k + 1) y = stV x v C k y := by
  unfold stV
  by_cases h2 : 0 ≤ v ∧ v < (k : Int)
  · rw [if_pos (by omega), if_pos h2]
  · rw [if_neg (by omega), if_neg h2]
set_option maxRecDepth 8000 in
set_option maxHeartbeats 8000000 in
theorem store_c {P : Nat → Prop} {cels : List Cel} {f : SF} {ex : EL} {th el : SL} (hcl : cels.length ≤ 1000000) (hWS : WsOK (cels.map (·.w))) (hk : f.k = 1) : OC 64 P cels f ex th el := by
  intro B X w gB cv gc gv G n gF oF gW ty cs S vs ls fb ev tv lv er tr lr h hc hF hf hr he hr2 he2 hr3 he3 hwt hws hl
  have hwk : (∃ a b, ex.ws = [a, b] ∧ wtCells (cels.map (·.w)) f.c f.l b) := by
    rw [wtS1, hk] at hws
    rcases hws with ⟨a, h9⟩ | ⟨a, h9⟩ | ⟨a, h9⟩ | ⟨a, h9⟩ | ⟨a, h9⟩ | ⟨a, h9⟩ | ⟨a, h9⟩
    · exact absurd a (by decide)
    · exact h9
    · exact absurd a (by decide)
    · exact absurd a (by decide)
    · exact absurd a (by decide)
    · exact absurd a (by decide)
    · exact absurd a (by decide)
  obtain ⟨a0, a1, E, c0, c1, c2, c3⟩ := hwk
  have HC := Hid.mk hc
  have hcl2 : (cels.map (·.w)).length ≤ 1000000 := by rw [List.length_map]; exact hcl
  generalize hcw : cels.map (·.w) = cw at *
  have hexl : ex.toL.length = 2 := by have := ws_len ex; rw [E] at this; simpa [EL.len] using this.symm
  have hrs := hr.step (KP.of (Keep.refl w))
  obtain ⟨ea, ec, hev, ev1, ev2⟩ := hr.form
  obtain ⟨ta, tc, htv, tv1, tv2⟩ := hr2.form
  obtain ⟨la, lc, hlv, lv1, lv2⟩ := hr3.form
  have hel := he.len
  rw [hel] at hev ev1
  unfold EL.len at hev ev1
  rw [hexl] at hev ev1
  subst hev htv hlv
  unfold maxLen at ev2 tv2 lv2
  obtain ⟨W, hWd⟩ : ∃ W, W = w.alloc (.cells #[.int .i64 f.k, .int .i64 f.c, .int .i64 f.l, .int .i64 f.a, .int .i64 f.b, .slice ea 2 ec, .slice ta tr.length tc, .slice la lr.length lc] 109) := ⟨_, rfl⟩
  have kW : Keep w W := by rw [hWd]; exact (Keep.refl w).alloc _
  have aS : Arr W w.heap.size 109 (SfC f (.slice ea 2 ec) (.slice ta tr.length tc) (.slice la lr.length lc)) := by rw [hWd]; exact Arr.new w 109 _
  have HBW := Hid.mk (h.keep kW)
  have HFW := Hid.mk (hF.keep kW)
  have HKW := Hid.mk kW
  have HAS := Hid.mk aS
  have hgS : ¬ fpC gc gv w.heap.size ∧ ¬ pF gF gW w.heap.size := ⟨fun a => by have := (h.cc.flt a).2; omega, fun a => by
    have h1 := h.hX _ hF.xf
    have h2 := h.hX _ hF.xw
    rcases a with a | a <;> omega⟩
  have HGS := Hid.mk hgS
  have HL := Hid.mk hl
  have HNY := Hid.mk (nY_pos f ex th el)
  have HWS := Hid.mk hWS
  have HPX := Hid.mk (pFX hF)
  have HRT := Hid.mk (hr2.step (KP.of kW))
  have HET := Hid.mk (he2.step (KP.of kW))
  have HRL := Hid.mk (hr3.step (KP.of kW))
  have HELS := Hid.mk (he3.step (KP.of kW))
  have HLTE : Hid (∀ inp i, i < 2 → 1 ≤ ex.ws.getD i 0 ∧ ex.ws.getD i 0 ≤ 64 ∧ kv (evL ex (S inp)) i < 2 ^ kw ex.ws i) := Hid.mk (fun inp i hi => evL_lt (hF.ok inp) hwt i (by omega))
  have HI := Hid.mk (inputs_c (h.keep kW) (hF.keep kW) hWS hcl2 f (er := er) hr2.sl hr3.sl (hr.step (KP.of kW)) (he.step (KP.of kW)) hwt (by omega) (by have := nY_pos f ex th el; omega))
  obtain ⟨q0, q1, q2, q3, q4, q5, q6, q7⟩ := sfC_cells aS
  obtain ⟨y0, -⟩ := (h.keep kW).cells
  have HOK : Hid (∀ inp, StOK cw (S inp)) := Hid.mk (fun inp => hF.ok inp)
  have HCWE := Hid.mk hcw
  simp only [sfA] at HI ⊢
  obtain ⟨C, hC⟩ : ∃ C : Nat, f.c = C := ⟨f.c.toNat, by omega⟩
  obtain ⟨L, hL⟩ : ∃ L : Nat, f.l = L := ⟨f.l.toNat, by omega⟩
  obtain ⟨A, hA⟩ : ∃ A : Nat, a0 = A := ⟨a0.toNat, by have := (HLTE.out (fun _ => false) 0 (by decide)).1; rw [E] at this; simp at this; omega⟩
  obtain ⟨D, hD⟩ : ∃ D : Nat, a1 = D := ⟨a1.toNat, by have := (HLTE.out (fun _ => false) 1 (by decide)).1; rw [E] at this; simp at this; omega⟩
  have hA2 : 1 ≤ A ∧ A ≤ 64 := by have := HLTE.out (fun _ => false) 0 (by decide); rw [E] at this; simp at this; omega
  have hD2 : 1 ≤ D ∧ D ≤ 64 := by have := HLTE.out (fun _ => false) 1 (by decide); rw [E] at this; simp at this; omega
  have hCL : C + L ≤ cw.length := by omega
  have HKW0 : Hid (kw ex.ws 0 = A) := Hid.mk (by rw [E, hA]; rfl)
  have HKW1 : Hid (kw ex.ws 1 = D) := Hid.mk (by rw [E, hD]; rfl)
  have HCWK : Hid (∀ k, k < L → (cw.getD (C + k) 0).toNat = D) := Hid.mk (fun k hk9 => by
    have h9 := c3 k (by omega)
    rw [show f.c.toNat + k = C + k by rw [hC]; rfl, hD] at h9
    rw [h9]; rfl)
  have HHC := Hid.mk hC
  have HHL := Hid.mk hL
  have HCL := Hid.mk hCL
  have hNYL : 1 + nE ex + L ≤ nY (f, ex, th, el) := by
    unfold nY nS1
    simp only
    rw [if_pos ⟨hk, by omega⟩, hL]
    simp
  have HNYL := Hid.mk hNYL
  have i7 : (L : Int) ≤ 1000000 := by omega
  have i8 : (C : Int) ≤ 1000000 := by omega
  have HRX : Hid (∀ inp, exX cw (S inp) (f, ex, th, el) = ⟨(stV (⟨(S inp).cells, (S inp).fault || anyF (evL ex (S inp))⟩ : PS) (sgn (kv (evL ex (S inp)) 0) A) C L (kv (evL ex (S inp)) 1)).cells, ((⟨(S inp).cells, (S inp).fault || anyF (evL ex (S inp))⟩ : PS)).fault || decide ((sgn (kv (evL ex (S inp)) 0) A) < 0 ∨ (L : Int) ≤ (sgn (kv (evL ex (S inp)) 0) A))⟩) := Hid.mk (fun inp => by
    simp only [exX, exOne, hk, hC, hL, HKW0.out]
    rw [if_neg (by decide)]
    simp only [if_true]
    unfold stV
    generalize (sgn (kv (evL ex (S inp)) 0) A) = v
    by_cases h2 : v < 0 ∨ (L : Int) ≤ v
    · rw [if_pos h2, if_neg (by omega), decide_eq_true h2]; simp
    · rw [if_neg h2, if_pos (by omega), decide_eq_false h2]
      rw [show ((C : Int) + v).toNat = C + v.toNat by omega]
      simp [PS.put])
  have HHK := Hid.mk hk
  have HHF := Hid.mk hf
  clear hc hF hf hr he hr2 he2 hr3 he3 hwt hws hl kW aS hgS hk hel hrs hWS hcw h E c0 c1 c2 c3 hC hL hCL hA hD hNYL
  go_enter Try.func64, Try.ntmps64
  go_upto_region 1 with fail
  rw [← hWd]
  have HKE : Hid (SX (pF gF gW) B X P w gB cv gc gv G n 0 W gv G) := Hid.mk ⟨HBW.out, SY.keep HKW.out, Ext.refl HBW.out.wf⟩
  generalize w.heap.size = gS at *
  clear hWd
  go_wp2_with fail
  refine HI.out.mono ?_
  rintro e w2 ⟨gv2, G2, gV, wvl, wll, fb2, he9, sx2, fr2, vl2⟩
  rw [hexl] at he9
  subst he9
  have HX2 : Hid (SX (pF gF gW) B X P W gB cv gc gv G n (1028 * nE ex + 4) w2 gv2 G2) := Hid.mk (sx2.wider (fun q _ a => Or.inl a))
  have HF2 := Hid.mk fr2
  have HD : Hid (∀ K Z gv' G', SX (pF gF gW) B X P w2 gB cv gc gv2 G2 n K Z gv' G' → (Z.cell? ⟨gB, 0, none⟩ = some (.pointer (some ⟨gc, 0, none⟩))) ∧ Arr Z gS 109 (SfC f (.slice ea 2 ec) (.slice ta tr.length tc) (.slice la lr.length lc)) ∧ Arr Z gV 96 wvl) := Hid.mk (fun K Z gv' G' s => ⟨s.bs.cells.1, (HX2.out.trans s).arr HAS.out HGS.out.1 HGS.out.2, s.arr vl2.ar (fun a => vl2.nb (Or.inl a)) (fun a => vl2.nb (Or.inr (HPX.out _ a)))⟩)
  have hvl : wvl.length = 2 := by rw [vl2.lv]; exact hexl
  have hwl : wll.length = 2 := by rw [vl2.ll]; exact hexl
  have hk0 : kw ex.ws 0 = A := HKW0.out
  have wv0 := vl2.wv 0 (by omega)
  rw [hk0] at wv0
  have wo0 := vl2.wo 0 (by omega) (by omega)
  obtain ⟨va0, vc0, hv0, -, -⟩ := wo0.sh wv0
  rw [hv0] at wo0
  have hg0 : wvl[0]? = some (.slice va0 A vc0) := by rw [List.getElem?_eq_getElem (by omega), hv0]
  generalize wll[0]'(by omega) = l0 at *
  obtain ⟨vb0, vo0, hva0⟩ := wo0.blk (by rw [wv0.len]; omega)
  subst hva0
  obtain ⟨p0, hp0, bp0⟩ := wv0.first (by omega)
  have HWO0 := Hid.mk wo0
  have HWV0 := Hid.mk wv0
  have HBP0 := Hid.mk bp0
  have HP0 := Hid.mk hp0
  have HVG0 := Hid.mk hg0
  clear hk0 wv0 wo0 hv0 hg0 hp0 bp0
  have hk1 : kw ex.ws 1 = D := HKW1.out
  have wv1 := vl2.wv 1 (by omega)
  rw [hk1] at wv1
  have wo1 := vl2.wo 1 (by omega) (by omega)
  obtain ⟨va1, vc1, hv1, -, -⟩ := wo1.sh wv1
  rw [hv1] at wo1
  have hg1 : wvl[1]? = some (.slice va1 D vc1) := by rw [List.getElem?_eq_getElem (by omega), hv1]
  generalize wll[1]'(by omega) = l1 at *
  obtain ⟨vb1, vo1, hva1⟩ := wo1.blk (by rw [wv1.len]; omega)
  subst hva1
  obtain ⟨p1, hp1, bp1⟩ := wv1.first (by omega)
  have HWO1 := Hid.mk wo1
  have HWV1 := Hid.mk wv1
  have HBP1 := Hid.mk bp1
  have HP1 := Hid.mk hp1
  have HVG1 := Hid.mk hg1
  clear hk1 wv1 wo1 hv1 hg1 hp1 bp1
  clear sx2 fr2 vl2 hvl hwl HI q0 q1 q2 q3 q4 q5 q6 q7 y0
  obtain ⟨x0, aS, aV⟩ := HD.out _ _ _ _ (ST.refl HX2.out.bs).sx
  obtain ⟨s0, s1, s2, s3, s4, s5, s6, s7⟩ := sfC_cells aS
  rw [HHL.out] at s2
  have sd : w2.drew.cell? ⟨gV, 0, none⟩ = some (.slice (some ⟨vb0, vo0, none⟩) A vc0) ∧ w2.drew.cell? ⟨gS, 2, none⟩ = some (.int .i64 (L : Nat)) := ⟨(aV.cell 0).trans HVG0.out, s2⟩
  have H76 := Hid.mk (hits_c (HX2.out.bs.keep (Keep.refl w2).drew) (HWO0.out.stepX (Stp.keep (Keep.refl w2).drew)) HWV0.out hA2.1 hA2.2 L (by omega) (by have := HL.out; have := HX2.out.len; have := HNYL.out; omega))
  have HSH : Hid (∀ K Z gv' G', ST B X P w2 gB cv gc gv2 G2 n K Z gv' G' → Z.cell? ⟨gV, 0, none⟩ = some (.slice (some ⟨vb0, vo0, none⟩) A vc0) ∧ Z.cell? ⟨gS, 2, none⟩ = some (.int .i64 (L : Nat))) := Hid.mk (fun K Z gv' G' s => by
    obtain ⟨x0, aS, aV⟩ := HD.out _ _ _ _ s.sx
    obtain ⟨s0, s1, s2, s3, s4, s5, s6, s7⟩ := sfC_cells aS
    rw [HHL.out] at s2
    exact ⟨(aV.cell 0).trans HVG0.out, s2⟩)
  clear aS aV s0 s1 s2 s3 s4 s5 s6 s7 x0
  go_wp2_with fail
  go_region_held3 (fun w' => w'.cell? ⟨gV, 0, none⟩ = some (.slice (some ⟨vb0, vo0, none⟩) A vc0) ∧ w'.cell? ⟨gS, 2, none⟩ = some (.int .i64 (L : Nat))) (with_reducible first | exact sd | exact sd3)
    (first
      | (go_at_call 76; refine H76.out.mono ?_; rintro e w3 ⟨gv3, G3, hv, hs, nb, rfl, c9, s9, x9, wo9, hln9, hb9, bt9⟩; obtain ⟨ha, hc, hhv, -, -⟩ := wo9.form; rw [hln9] at hhv; subst hhv; have HS3 : Hid (ST B X P w2 gB cv gc gv2 G2 n (140 * L + 1) w3 gv3 G3) := Hid.mk (((ST.keep HX2.out.bs (Keep.refl w2).drew).trans ⟨(HX2.out.bs.keep (Keep.refl w2).drew).step c9 s9 x9, s9, x9⟩).mono (by omega)); have sd3 := HSH.out _ _ _ _ HS3.out; have HWH := Hid.mk wo9; have HLH := Hid.mk hln9; have HBH := Hid.mk hb9; have HBN := Hid.mk bt9; clear c9 s9 x9 wo9 hln9 hb9 bt9))
  rename_i hHd
  clear hHd sd sd3 H76
  have HF3 := Hid.mk (HS3.out.frm HX2.out.bs HF2.out)
  have HX3 := Hid.mk (HX2.out.thn HS3.out)
  go_wp2_with fail
  go_loopg [26] L (fun gk v26 wr => ∃ (k : Nat) (gv4 : Value) (G4 : List Gate) (vs4 : List Value) (ls4 : List (List Nat)), k + gk = L ∧ v26 = .int .i64 k ∧ SX (pF gF gW) B X P w3 gB cv gc gv3 G3 n (448 * k) wr gv4 G4 ∧ FRM X gc gv4 wr G4 gF oF gW ty cs cw (fun inp => stV (⟨(S inp).cells, (S inp).fault || anyF (evL ex (S inp))⟩ : PS) (sgn (kv (evL ex (S inp)) 0) A) C k (kv (evL ex (S inp)) 1)) vs4 ls4 fb2)
  case atStart => exact ⟨0, gv3, G3, vs, ls, by omega, rfl, (ST.refl HS3.out.bs).sx.mono (by omega), HF3.out.congr (fun inp => by unfold stV; rw [if_neg (by omega)])⟩
  case round =>
    obtain ⟨k, gv4, G4, vs4, ls4, hkk, rfl, hsx, hfr⟩ := hrel
    have HKK := Hid.mk hkk
    have HX4 := Hid.mk hsx
    have HF4 := Hid.mk hfr
    have HSZ : Hid (G4.length + 1000 ≤ 650000000) := Hid.mk (by have := HL.out; have := HX3.out.len; have := hsx.len; have := HNYL.out; omega)
    clear hsx hfr hkk
    by_cases hlt : k < L
    · have j1 : (k : Int) < L := by omega
      have j2 : (0 : Int) ≤ k := by omega
      have hkl : k < hs.length := by have := HLH.out; omega
      have HWH4 := Hid.mk (HX4.out.wo HPX.out HWH.out)
      obtain ⟨hb, ho, hha, hcl9⟩ := HWH4.out.cell hkl
      have HBK : Hid (Bt G4 hs[k] (fun inp => decide ((sgn (kv (evL ex (S inp)) 0) A) = (k : Int)))) := Hid.mk (HX4.out.bt (HBH.out k hkl))
      have HCK : Hid (∀ K Z gv' G', ST B X P wr gB cv gc gv4 G4 n K Z gv' G' → Z.cell? ⟨hb, ho + k, none⟩ = some (.int .i64 (hs[k] : Nat))) := Hid.mk (fun K Z gv' G' s => by
        obtain ⟨b9, o9, h8, h9⟩ := (s.wo HWH4.out).cell hkl
        rw [hha] at h8
        obtain ⟨rfl, rfl⟩ : hb = b9 ∧ ho = o9 := by simpa using h8
        exact h9)
      subst hha
      have sd : wr.drew.cell? ⟨hb, ho + k, none⟩ = some (.int .i64 (hs[k] : Nat)) ∧ wr.drew.cell? ⟨gB, 0, none⟩ = some (.pointer (some ⟨gc, 0, none⟩)) := ⟨hcl9, HX4.out.bs.cells.1⟩
      have hCk : C + k < cw.length := by have := HCL.out; omega
      have HHCK := Hid.mk hCk
      have hls : k < L ∧ C + k < cw.length ∧ (C : Int) ≤ 1000000 ∧ (k : Int) ≤ 1000000 := ⟨hlt, hCk, by omega, by omega⟩
      have HLS := Hid.mk hls
      generalize hs[k] = hk0 at *
      clear hkl hCk hcl9 hls
      by_cases z : hk0 = 0
      · have z1 : ((hk0 : Int) != 0) = false := by simp; omega
        have HZ := Hid.mk z
        clear z
        go_wp2_with fail
        go_region_held3 (fun w' => w'.cell? ⟨hb, ho + k, none⟩ = some (.int .i64 (hk0 : Nat)) ∧ w'.cell? ⟨gB, 0, none⟩ = some (.pointer (some ⟨gc, 0, none⟩))) (with_reducible first | exact sd) (first | (go_at_call 75; refine (false_c gc _).mono ?_; rintro e y9 ⟨rfl, hy9⟩; subst hy9))
        rename_i hHd
        clear hHd sd
        go_wp2_with fail
        go_roundg (gk - 1)
        case measure => have := HKK.out; omega
        case rel =>
          refine ⟨k + 1, gv4, G4, vs4, ls4, by have := HKK.out; omega, by go_num, HX4.out.drew.mono (by omega), (HF4.out.keep (Keep.refl _).drew).congr (fun inp => ?_)⟩
          have h9 := HBK.out
          rw [HZ.out] at h9
          have h8 := h9.uniq HX4.out.bs.wf.2 inp
          rw [stV_skip _ _ _ _ _ (of_decide_eq_false h8)]
      · have z1 : ((hk0 : Int) != 0) = true := by simp; omega
        clear z
        go_wp2_with fail
        go_region_held3 (fun w' => w'.cell? ⟨hb, ho + k, none⟩ = some (.int .i64 (hk0 : Nat)) ∧ w'.cell? ⟨gB, 0, none⟩ = some (.pointer (some ⟨gc, 0, none⟩))) (with_reducible first | exact sd) (first | (go_at_call 75; refine (false_c gc _).mono ?_; rintro e y9 ⟨rfl, hy9⟩; subst hy9))
        rename_i hHd
        clear hHd sd
        obtain ⟨W5, hW5⟩ : ∃ W5, W5 = wr.drew := ⟨_, rfl⟩
        have HSD : Hid (ST B X P wr gB cv gc gv4 G4 n 0 W5 gv4 G4) := Hid.mk (by rw [hW5]; exact ST.keep HX4.out.bs (Keep.refl wr).drew)
        rw [← hW5]
        clear hW5
        have HF5 := Hid.mk (HSD.out.frm HX4.out.bs HF4.out)
        obtain ⟨uv, lu, hu1, hu2, hu3, hu4⟩ := HF5.out.word HHCK.out
        rw [HCWK.out k hlt] at hu4
        obtain ⟨ua, uc, huu, -, -⟩ := hu3.sh hu4
        subst huu
        have HX25 := Hid.mk ((HS3.out.sx (Y := pF gF gW)).trans (HX4.out.thn HSD.out))
        have hw1 := HX25.out.wo HPX.out HWO1.out
        have hv1 := HX25.out.wv HWV1.out
        go_wp2_with fail
        refine st7_c gB gF oF gS gW gV hb ho hc L cw.length C k hk0 (some ⟨vb1, vo1, none⟩) D vc1 ua uc rfl rfl rfl rfl rfl rfl rfl (fun p W => RV B X P gB cv gc gv4 W5.drew G4 n 448 D (fun inp => if decide ((sgn (kv (evL ex (S inp)) 0) A) = (k : Int)) then kv (evL ex (S inp)) 1 else (stV (⟨(S inp).cells, (S inp).fault || anyF (evL ex (S inp))⟩ : PS) (sgn (kv (evL ex (S inp)) 0) A) C k (kv (evL ex (S inp)) 1)).at (C + k)) (.returned p) W) (fun W => ∃ K gv' G', ST B X P W5 gB cv gc gv4 G4 n K W gv' G') ?_ hlt HHCK.out (by rw [IntKind.wrap_i64]; have := HLS.out; omega) ⟨_, _, _, ST.keep HSD.out.bs (Keep.refl W5).drew⟩ ?_ ?_ ?_
        · rintro W ⟨K9, gv9, G9, s9⟩
          have a1 := (s9.frm HSD.out.bs HF5.out).cells.1
          have a2 := (s9.frm HSD.out.bs HF5.out).aw.cell (C + k)
          have a3 := HF5.out.aw.cell (C + k)
          obtain ⟨-, aS, aV⟩ := HD.out _ _ _ _ (HX25.out.trans s9.sx)
          obtain ⟨s0, s1, s2, s3, s4, s5, s6, s7⟩ := sfC_cells aS
          rw [HHC.out] at s1
          exact ⟨a1, s1, HCK.out _ _ _ _ (HSD.out.trans s9), (aV.cell 1).trans HVG1.out, by rw [Nat.zero_add, a2, ← a3]; exact hu1⟩
        · rintro p W ⟨gv9, G9, l9, a9, c9, e9, b9, s9, x9, wo9, wv9⟩
          exact ⟨_, gv9, G9, (ST.keep HSD.out.bs (Keep.refl W5).drew).trans ⟨b9, s9, x9⟩⟩
        · refine (mux_k (HSD.out.bs.keep (Keep.refl W5).drew) (HSD.out.bt HBK.out) (hw1.stepX (Stp.keep (Keep.refl W5).drew)) hv1 (hu3.stepX (Stp.keep (Keep.refl W5).drew)) hu4 hD2.2 (by have := HSZ.out; omega)).mono ?_
          rintro e w9 ⟨gv9, G9, l9, a9, c9, e9, r9⟩
          exact ⟨_, e9, gv9, G9, l9, a9, c9, rfl, r9⟩
        · rintro p W ⟨gv9, G9, l9, a9, c9, e9, b9, s9, x9, wo9, wv9⟩
          obtain rfl : p = .slice a9 D c9 := by injection e9
          have s10 : ST B X P W5 gB cv gc gv4 G4 n 448 W gv9 G9 := ((ST.keep HSD.out.bs (Keep.refl W5).drew).trans ⟨b9, s9, x9⟩).mono (by omega)
          have fa := s10.frm HSD.out.bs HF5.out
          obtain ⟨v8, l8, g1, g2, -, -⟩ := fa.word HHCK.out
          have fp := fa.put HHCK.out wo9 (by rw [HCWK.out k hlt]; exact wv9)
          have HFP := Hid.mk fp
          have HXP := Hid.mk (SX.put (HX4.out.thn (HSD.out.trans s10)) fa (C + k) (.slice a9 D c9))
          refine ⟨⟨_, _, _, rfl⟩, ⟨v8, by rw [Nat.zero_add]; exact g1⟩, by rw [Nat.zero_add]; exact g2, ?_⟩
          rw [Nat.zero_add]
          generalize W.setCell ⟨gW, C + k, none⟩ (.slice a9 D c9) = w10 at *
          clear fp fa g1 g2 e9 b9 s9 x9 wo9 wv9 s10 hu1 hu2 hu3 hu4 hw1 hv1
          simp only [lay, st7L, List.set_cons_succ, List.set_cons_zero, List.foldl, Act.put, List.setIfInBounds_toArray]
          go_wp2_with fail
          go_roundg (gk - 1)
          case measure => have := HKK.out; omega
          case rel =>
            refine ⟨k + 1, gv9, G9, _, _, by have := HKK.out; omega, by go_num, HXP.out.mono (by omega), HFP.out.congr (fun inp => ?_)⟩
            rw [stV_next _ _ _ _ _ (by have h7 := (HOK.out inp).1; have h6 := HHCK.out; show C + k < (S inp).cells.length; omega)]
    · have j1 : ¬ (k : Int) < L := by omega
      obtain rfl : k = L := by have := HKK.out; omega
      obtain ⟨f0, f1, f2⟩ := HF4.out.cells
      have C78 := Hid.mk (or_k HX4.out.bs HF4.out.bf (HX4.out.bt HBN.out) (by have := HSZ.out; omega))
      go_wp2_with fail
      refine C78.out.mono ?_
      rintro e w6 ⟨gv6, G6, b6, rfl, b9, s9, x9, bt9⟩
      have HT6 : Hid (ST B X P wr gB cv gc gv4 G4 n 4 w6 gv6 G6) := Hid.mk ⟨b9, s9, x9⟩
      have HF6 := Hid.mk (HT6.out.frm HX4.out.bs HF4.out)
      have HF7 := Hid.mk (HF6.out.flt HT6.out.bs bt9)
      have HX7 := Hid.mk (SX.flt (HX3.out.trans (HX4.out.thn HT6.out)) HF6.out (.int .i64 ((b6 : Nat) : Int)))
      clear b9 s9 x9 bt9 f0 f1 f2
      obtain ⟨f0, f1, f2⟩ := HF6.out.cells
      go_wp2_with fail
      go_end0
      refine ⟨gv6, G6, _, _, _, rfl, (HKE.out.trans HX7.out).mono (by have := HNYL.out; omega), HF7.out.congr (fun inp => ?_)⟩
      rw [HRX.out]
      congr 1
      unfold stV
      split <;> rfl
end Go.Proofs.Qxb6500772a
