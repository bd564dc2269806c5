/- blast: branch. -/
import Derived.Test.Qxb6500772aDo
import Derived.Test.Qxb6500772aEb
import Derived.Test.Qxb6500772aDt
import Derived.Test.Qxb6500772aLf
import Derived.Deep.RegionHeld3
namespace Go.Proofs.Qxb6500772a
open Go.RowKit Go.Qm
set_option linter.unusedVariables false
set_option linter.unusedSimpArgs false
attribute [local go_sem ↓] Go.wp_at_zero Go.wp_at_succ
theorem WO.ofArr {B : Nat} {X P : Nat → Prop} {w W : World} {gB : Nat} {cv : Value} {gc : Nat} {gv : Value} {G : List Gate} {n : Nat} (h : BS B X P w gB cv gc gv G n) (k : Keep w W) {g x : Nat} (a : Arr W g 46 [.int .i64 ((x : Nat) : Int)]) (hg : w.heap.size ≤ g) : WO (fpX gc gv X) W (.slice (some ⟨g, 0, none⟩) 1 1) [x] := by
  refine ⟨show Sl _ _ _ from ⟨some ⟨g, 0, none⟩, 1, rfl, Nat.le_refl _, by simp [maxLen], fun i u hu => ⟨g, 0, rfl, ?_⟩⟩, fun q hq => ?_⟩
  · rw [Nat.zero_add, a.cell]; exact hu
  · obtain rfl : g = q := by simpa [Value.ownBlock] using hq
    refine ⟨fun b => ?_, a.lt⟩
    rcases b with b | b
    · have := (h.cc.flt b).2; omega
    · have := h.hX _ b; omega
/-- The merge of two states, up to cell k. -/
def mgV (c : Bool) (x y : PS) (k : Nat) : PS := ⟨(x.cells.zipIdx).map (fun z => if z.2 < k then (if c then z.1 else y.at z.2) else z.1), x.fault⟩
theorem mgV_len (c : Bool) (x y : PS) (k : Nat) : (mgV c x y k).cells.length = x.cells.length := by simp [mgV]
theorem mgV_at (c : Bool) (x y : PS) (k i : Nat) (h : i < x.cells.length) : (mgV c x y k).at i = if i < k then (if c then x.at i else y.at i) else x.at i := by
  unfold mgV PS.at
  simp only [List.getD_eq_getElem?_getD, List.getElem?_map, List.getElem?_zipIdx]
  simp [h]
theorem mgV_zero (c : Bool) (x y : PS) : mgV c x y 0 = x := by
  unfold mgV
  obtain ⟨cs, f⟩ := x
  simp only [PS.mk.injEq, and_true]
  apply List.ext_getElem
  · simp
  · intro i h1 h2
    simp
theorem mgV_next (c : Bool) (x y : PS) (k : Nat) (h : k < x.cells.length) : mgV c x y (k + 1) = (mgV c x y k).put k (if c then (mgV c x y k).at k else y.at k) := by
  have h1 := mgV_at c x y k k h
  rw [if_neg (by omega)] at h1
  rw [h1]
  unfold mgV PS.put
  simp only [PS.mk.injEq, and_true]
  apply List.ext_getElem
  · simp
  · intro i h2 h3
    rw [List.getElem_set]
    simp only [List.getElem_map, List.getElem_zipIdx, Nat.zero_add]
    by_cases e : k = i
    · subst e
      simp [PS.at, List.getD_eq_getElem?_getD, h]
    · simp only [e, if_false]
      by_cases e2 : i < k
      · rw [if_pos (show i < k + 1 by omega), if_pos e2]
      · rw [if_neg (show ¬ i < k + 1 by omega), if_neg e2]
theorem mgV_all (c : Bool) (x y : PS) (h : y.cells.length = x.cells.length) : (mgV c x y x.cells.length).cells = if c then x.cells else y.cells := by
  unfold mgV
  apply List.ext_getElem
  · cases c <;> simp [h]
  · intro i h2 h3
    have h4 : i < x.cells.length := by simpa using h2
    simp only [List.getElem_map, List.getElem_zipIdx, Nat.zero_add, h4, if_true]
    cases c
    · simp [PS.at, List.getD_eq_getElem?_getD, h, h4]
    · simp
set_option maxRecDepth 8000 in
set_option maxHeartbeats 8000000 in
theorem branch_c {P : Nat → Prop} {cels : List Cel} {f : SF} {ex : EL} {th el : SL} (hcl : cels.length ≤ 1000000) (hWS : WsOK (cels.map (·.w))) (hk : f.k = 2) (hcl3 : cels.length ≤ 256) (IHT : MC P cels th) (IHE : MC P cels el) : OC 65 P cels f ex th el := by
  intro B X w gB cv gc gv G n gF oF gW ty cs S vs ls fb ev tv lv er tr lr h hc hF hf hr he hr2 he2 hr3 he3 hwt hws hl
  have hwk : (ex.ws = [1] ∧ wtS (cels.map (·.w)) th ∧ wtS (cels.map (·.w)) el) := by
    rw [wtS1, hk] at hws
    rcases hws with ⟨a, h9⟩ | ⟨a, h9⟩ | ⟨a, h9⟩ | ⟨a, h9⟩ | ⟨a, h9⟩ | ⟨a, h9⟩ | ⟨a, h9⟩
    · exact absurd a (by decide)
    · exact absurd a (by decide)
    · exact h9
    · exact absurd a (by decide)
    · exact absurd a (by decide)
    · exact absurd a (by decide)
    · exact absurd a (by decide)
  obtain ⟨E, hwT, hwE⟩ := hwk
  have HC := Hid.mk hc
  have hcl2 : (cels.map (·.w)).length ≤ 1000000 := by rw [List.length_map]; exact hcl
  generalize hcw : cels.map (·.w) = cw at *
  have hexl : ex.toL.length = 1 := by have := ws_len ex; rw [E] at this; simpa [EL.len] using this.symm
  have hrs := hr.step (KP.of (Keep.refl w))
  obtain ⟨ea, ec, hev, ev1, ev2⟩ := hr.form
  obtain ⟨ta, tc, htv, tv1, tv2⟩ := hr2.form
  obtain ⟨la, lc, hlv, lv1, lv2⟩ := hr3.form
  have hel := he.len
  rw [hel] at hev ev1
  unfold EL.len at hev ev1
  rw [hexl] at hev ev1
  subst hev htv hlv
  unfold maxLen at ev2 tv2 lv2
  obtain ⟨W, hWd⟩ : ∃ W, W = w.alloc (.cells #[.int .i64 f.k, .int .i64 f.c, .int .i64 f.l, .int .i64 f.a, .int .i64 f.b, .slice ea 1 ec, .slice ta tr.length tc, .slice la lr.length lc] 109) := ⟨_, rfl⟩
  have kW : Keep w W := by rw [hWd]; exact (Keep.refl w).alloc _
  have aS : Arr W w.heap.size 109 (SfC f (.slice ea 1 ec) (.slice ta tr.length tc) (.slice la lr.length lc)) := by rw [hWd]; exact Arr.new w 109 _
  have HBW := Hid.mk (h.keep kW)
  have HFW := Hid.mk (hF.keep kW)
  have HKW := Hid.mk kW
  have HAS := Hid.mk aS
  have hgS : ¬ fpC gc gv w.heap.size ∧ ¬ pF gF gW w.heap.size := ⟨fun a => by have := (h.cc.flt a).2; omega, fun a => by
    have h1 := h.hX _ hF.xf
    have h2 := h.hX _ hF.xw
    rcases a with a | a <;> omega⟩
  have HGS := Hid.mk hgS
  have HL := Hid.mk hl
  have HNY := Hid.mk (nY_pos f ex th el)
  have HWS := Hid.mk hWS
  have HPX := Hid.mk (pFX hF)
  have HRT := Hid.mk (hr2.step (KP.of kW))
  have HET := Hid.mk (he2.step (KP.of kW))
  have HRL := Hid.mk (hr3.step (KP.of kW))
  have HELS := Hid.mk (he3.step (KP.of kW))
  have HLTE : Hid (∀ inp i, i < 1 → 1 ≤ ex.ws.getD i 0 ∧ ex.ws.getD i 0 ≤ 64 ∧ kv (evL ex (S inp)) i < 2 ^ kw ex.ws i) := Hid.mk (fun inp i hi => evL_lt (hF.ok inp) hwt i (by omega))
  have HI := Hid.mk (inputs_c (h.keep kW) (hF.keep kW) hWS hcl2 f (er := er) hr2.sl hr3.sl (hr.step (KP.of kW)) (he.step (KP.of kW)) hwt (by omega) (by have := nY_pos f ex th el; omega))
  obtain ⟨q0, q1, q2, q3, q4, q5, q6, q7⟩ := sfC_cells aS
  obtain ⟨y0, -⟩ := (h.keep kW).cells
  have HOK : Hid (∀ inp, StOK cw (S inp)) := Hid.mk (fun inp => hF.ok inp)
  have HCWE := Hid.mk hcw
  simp only [sfA] at HI ⊢
  have HKW0 : Hid (kw ex.ws 0 = 1) := Hid.mk (by rw [E]; rfl)
  have hNYB : 1 + nE ex + nS th + nS el ≤ nY (f, ex, th, el) := by
    unfold nY nS1
    simp only
    rw [if_neg (fun a => by rw [hk] at a; exact absurd a.1 (by decide)), if_pos hk]
    omega
  have HNYB := Hid.mk hNYB
  have HWT := Hid.mk hwT
  have HWE := Hid.mk hwE
  have HRX : Hid (∀ inp, exX cw (S inp) (f, ex, th, el) = if ((kv (evL ex (S inp)) 0).testBit 0) then (exL cw th (⟨(S inp).cells, (S inp).fault || anyF (evL ex (S inp))⟩ : PS)) else (exL cw el (⟨(S inp).cells, (S inp).fault || anyF (evL ex (S inp))⟩ : PS))) := Hid.mk (fun inp => by
    have h1 := (HLTE.out inp 0 (by decide)).2.2
    rw [HKW0.out] at h1
    have h3 : kv (evL ex (S inp)) 0 < 2 := h1
    rw [bitOf h3]
    simp only [exX, exOne, hk, decide_eq_true_eq]
    rfl)
  have HTHL : Hid (∀ inp, ((exL cw th (⟨(S inp).cells, (S inp).fault || anyF (evL ex (S inp))⟩ : PS))).cells.length = cw.length ∧ ((exL cw el (⟨(S inp).cells, (S inp).fault || anyF (evL ex (S inp))⟩ : PS))).cells.length = cw.length) := Hid.mk (fun inp => ⟨(exL_ok hWS hwT (flt_ok (hF.ok inp) _)).1, (exL_ok hWS hwE (flt_ok (hF.ok inp) _)).1⟩)
  have HIT := Hid.mk IHT
  have HIE := Hid.mk IHE
  have hcl4 : cw.length ≤ 256 := by rw [← hcw, List.length_map]; exact hcl3
  have HC4 := Hid.mk hcl4
  have HHK := Hid.mk hk
  have HHF := Hid.mk hf
  clear hc hF hf hr he hr2 he2 hr3 he3 hwt hws hl kW aS hgS hk hel hrs hWS hcw h E hwT hwE hNYB IHT IHE
  go_enter Try.func65, Try.ntmps65
  go_upto_region 1 with fail
  rw [← hWd]
  have HKE : Hid (SX (pF gF gW) B X P w gB cv gc gv G n 0 W gv G) := Hid.mk ⟨HBW.out, SY.keep HKW.out, Ext.refl HBW.out.wf⟩
  generalize w.heap.size = gS at *
  clear hWd
  go_wp2_with fail
  refine HI.out.mono ?_
  rintro e w2 ⟨gv2, G2, gV, wvl, wll, fb2, he9, sx2, fr2, vl2⟩
  rw [hexl] at he9
  subst he9
  have HX2 : Hid (SX (pF gF gW) B X P W gB cv gc gv G n (1028 * nE ex + 4) w2 gv2 G2) := Hid.mk (sx2.wider (fun q _ a => Or.inl a))
  have HF2 := Hid.mk fr2
  have HD : Hid (∀ K Z gv' G', SX (pF gF gW) B X P w2 gB cv gc gv2 G2 n K Z gv' G' → (Z.cell? ⟨gB, 0, none⟩ = some (.pointer (some ⟨gc, 0, none⟩))) ∧ Arr Z gS 109 (SfC f (.slice ea 1 ec) (.slice ta tr.length tc) (.slice la lr.length lc)) ∧ Arr Z gV 96 wvl) := Hid.mk (fun K Z gv' G' s => ⟨s.bs.cells.1, (HX2.out.trans s).arr HAS.out HGS.out.1 HGS.out.2, s.arr vl2.ar (fun a => vl2.nb (Or.inl a)) (fun a => vl2.nb (Or.inr (HPX.out _ a)))⟩)
  have hvl : wvl.length = 1 := by rw [vl2.lv]; exact hexl
  have hwl : wll.length = 1 := by rw [vl2.ll]; exact hexl
  have hk0 : kw ex.ws 0 = 1 := HKW0.out
  have wv0 := vl2.wv 0 (by omega)
  rw [hk0] at wv0
  have wo0 := vl2.wo 0 (by omega) (by omega)
  obtain ⟨va0, vc0, hv0, -, -⟩ := wo0.sh wv0
  rw [hv0] at wo0
  have hg0 : wvl[0]? = some (.slice va0 1 vc0) := by rw [List.getElem?_eq_getElem (by omega), hv0]
  generalize wll[0]'(by omega) = l0 at *
  obtain ⟨vb0, vo0, hva0⟩ := wo0.blk (by rw [wv0.len]; omega)
  subst hva0
  obtain ⟨p0, hp0, bp0⟩ := wv0.first (by omega)
  have HWO0 := Hid.mk wo0
  have HWV0 := Hid.mk wv0
  have HBP0 := Hid.mk bp0
  have HP0 := Hid.mk hp0
  have HVG0 := Hid.mk hg0
  clear hk0 wv0 wo0 hv0 hg0 hp0 bp0
  clear sx2 fr2 vl2 hvl hwl HI q0 q1 q2 q3 q4 q5 q6 q7 y0
  obtain ⟨x0, aS, aV⟩ := HD.out _ _ _ _ (ST.refl HX2.out.bs).sx
  have v0 : w2.cell? ⟨gV, 0, none⟩ = some (.slice (some ⟨vb0, vo0, none⟩) 1 vc0) := (aV.cell 0).trans HVG0.out
  have hone : ∀ v ∈ vs, v.oneCell' = true := fun v hv => by
    obtain ⟨i, hi, rfl⟩ := List.mem_iff_getElem.1 hv
    obtain ⟨a9, c9, e9, -, -⟩ := (HF2.out.wo i hi (by rw [HF2.out.ll, ← HF2.out.lv]; exact hi)).form
    rw [e9]; rfl
  have hfl := HF2.out.hl
  have C27 := Hid.mk (clone_c (gF := gF) (oF := oF) (gW := gW) (fb := fb2) HF2.out.af (by rw [List.getElem?_set_ne (by omega)]; exact HF2.out.hs) (by simp [hfl]) HF2.out.aw HF2.out.lv hone hcl2)
  clear aS aV hone hfl
  go_wp2_with fail
  refine C27.out.mono ?_
  rintro e w2' ⟨gW2, rfl, k9, aW2, hg9⟩
  clear x0 v0
  go_upto_region 3 with fail
  obtain ⟨w3, hw3⟩ : ∃ w3, w3 = w2'.alloc (.cells #[.slice (some ⟨gW2, 0, none⟩) cw.length cw.length, .int .i64 (fb2 : Nat)] 48) := ⟨_, rfl⟩
  rw [← hw3]
  have k3 : Keep w2 w3 := by rw [hw3]; exact k9.alloc _
  have aO : Arr w3 w2'.heap.size 48 [.slice (some ⟨gW2, 0, none⟩) cw.length cw.length, .int .i64 (fb2 : Nat)] := by rw [hw3]; exact Arr.new w2' 48 _
  have aW : Arr w3 gW2 96 vs := by rw [hw3]; exact aW2.keep ((Keep.refl w2').alloc _)
  have hsz1 := k9.size
  have hsz2 := aW2.lt
  have hsz3 := aO.lt
  have hgF := HX2.out.bs.hX _ HF2.out.xf
  have hgW := HX2.out.bs.hX _ HF2.out.xw
  have hne : w2'.heap.size ≠ gW2 := by omega
  obtain ⟨gO, hgO⟩ : ∃ gO, gO = w2'.heap.size := ⟨_, rfl⟩
  rw [← hgO] at aO hne hsz3 ⊢
  have hX' : ∀ q, (X q ∨ q = gO ∨ q = gW2) → X q ∨ (w2.heap.size ≤ q ∧ q < w3.heap.size) := fun q a => by
    rcases a with a | a | a
    · exact Or.inl a
    · exact Or.inr (by rw [a]; omega)
    · exact Or.inr (by rw [a]; exact ⟨hg9, aW.lt⟩)
  have HB3 := Hid.mk (HX2.out.bs.more k3 (Z := fun q => X q ∨ q = gO ∨ q = gW2) hX')
  have HF3 := Hid.mk (HF2.out.more k3 (Z := fun q => X q ∨ q = gO ∨ q = gW2) (fun q a => Or.inl a) (fun q a => (hX' q a).imp id And.left))
  have HW3 := Hid.mk (HWO0.out.moreX k3 (Z := fun q => X q ∨ q = gO ∨ q = gW2) (fun q a => (hX' q a).imp id And.left))
  have HO3 : Hid (FRM (fun q => X q ∨ q = gO ∨ q = gW2) gc gv2 w3 G2 gO 0 gW2 48 [.slice (some ⟨gW2, 0, none⟩) cw.length cw.length, .int .i64 (fb2 : Nat)] cw (fun inp => (⟨(S inp).cells, (S inp).fault || anyF (evL ex (S inp))⟩ : PS)) vs ls fb2) := Hid.mk ⟨by simpa using aO, rfl, by simp, aW, HF2.out.lv, HF2.out.ll, Or.inr (Or.inl rfl), Or.inr (Or.inr rfl), hne, HF3.out.wo, HF3.out.wv, HF3.out.bf, HF3.out.sl⟩
  have HDJ : Hid ((gF ≠ gO ∧ gF ≠ gW2 ∧ gW ≠ gO ∧ gW ≠ gW2) ∧ w2.heap.size ≤ gO ∧ w2.heap.size ≤ gW2) := Hid.mk ⟨⟨by omega, by omega, by omega, by omega⟩, by omega, hg9⟩
  have HK3 := Hid.mk k3
  have HKP3 := Hid.mk ((HX2.out.kp HBW.out HPX.out).trans (KP.of (P := P) k3))
  have HPX3 : Hid (∀ q, pF gF gW q → (fun q => X q ∨ q = gO ∨ q = gW2) q) := Hid.mk (fun q a => Or.inl (HPX.out q a))
  have HPO3 : Hid (∀ q, pF gO gW2 q → (fun q => X q ∨ q = gO ∨ q = gW2) q) := Hid.mk (fun q a => Or.inr a)
  have HAS3 := Hid.mk ((HX2.out.arr HAS.out HGS.out.1 HGS.out.2).keep k3)
  have HLW : Hid (G2.length ≤ G.length + (1028 * nE ex + 4)) := Hid.mk HX2.out.len
  obtain ⟨s0, s1, s2, s3, s4, s5, s6, s7⟩ := sfC_cells HAS3.out
  have HGS3 : Hid (¬ fpC gc gv2 gS ∧ ¬ pF gF gW gS ∧ gS ≠ gO ∧ gS ≠ gW2) := Hid.mk ⟨fun a => by
    rcases HX2.out.sy.nw gS a with b | b
    · exact HGS.out.1 b
    · have := HAS.out.lt; omega, HGS.out.2, by have := (HX2.out.arr HAS.out HGS.out.1 HGS.out.2).lt; omega, by have := (HX2.out.arr HAS.out HGS.out.1 HGS.out.2).lt; omega⟩
  have HVL3 : Hid (gS < w3.heap.size) := Hid.mk HAS3.out.lt
  have CT := Hid.mk (HIT.out B (fun q => X q ∨ q = gO ∨ q = gW2) w3 gB cv gc gv2 G2 n gF oF gW ty cs (fun inp => (⟨(S inp).cells, (S inp).fault || anyF (evL ex (S inp))⟩ : PS)) vs ls fb2 _ tr HB3.out ((HC.out.step (KP.of HKW.out)).step HKP3.out) (by rw [HCWE.out]; exact HF3.out) (HRT.out.step HKP3.out) (HET.out.step HKP3.out) (by rw [HCWE.out]; exact HWT.out) (by have := HL.out; have := HLW.out; have := HNYB.out; omega))
  rw [HCWE.out] at CT
  clear hw3 k9 aW2 hg9 k3 aO aW hsz1 hsz2 hsz3 hgF hgW hne hgO hX'
  go_wp2_with fail
  refine CT.out.mono ?_
  rintro e w4 ⟨gv4, G4, vs4, ls4, fb4, rfl, sx4, fr4⟩
  have HX4 := Hid.mk sx4
  have HF4 := Hid.mk fr4
  have HO4 := Hid.mk (sx4.frm HB3.out (fun q a => ⟨HPX3.out q a, by
    rcases a with a | a
    · rw [a]; exact HDJ.out.1.1
    · rw [a]; exact HDJ.out.1.2.2.1, by
    rcases a with a | a
    · rw [a]; exact HDJ.out.1.2.1
    · rw [a]; exact HDJ.out.1.2.2.2⟩) HO3.out)
  have HKP4 := Hid.mk (HKP3.out.trans (sx4.kp HB3.out HPX3.out))
  have HAS4 := Hid.mk (sx4.arr HAS3.out HGS3.out.1 HGS3.out.2.1)
  have CE := Hid.mk (HIE.out B (fun q => X q ∨ q = gO ∨ q = gW2) w4 gB cv gc gv4 G4 n gO 0 gW2 48 [.slice (some ⟨gW2, 0, none⟩) cw.length cw.length, .int .i64 (fb2 : Nat)] (fun inp => (⟨(S inp).cells, (S inp).fault || anyF (evL ex (S inp))⟩ : PS)) vs ls fb2 _ lr sx4.bs ((HC.out.step (KP.of HKW.out)).step HKP4.out) (by rw [HCWE.out]; exact HO4.out) (HRL.out.step HKP4.out) (HELS.out.step HKP4.out) (by rw [HCWE.out]; exact HWE.out) (by have := HL.out; have := HLW.out; have := HNYB.out; have := sx4.len; omega))
  rw [HCWE.out] at CE
  clear sx4 fr4 s0 s1 s2 s3 s4 s5 s6 s7
  obtain ⟨s0, s1, s2, s3, s4, s5, s6, s7⟩ := sfC_cells HAS4.out
  go_wp2_with fail
  refine CE.out.mono ?_
  rintro e w5 ⟨gv5, G5, vs5, ls5, fb5, rfl, sx5, fr5⟩
  have HX5 := Hid.mk sx5
  have HO5 := Hid.mk fr5
  have HF5 := Hid.mk (sx5.frm HX4.out.bs (fun q a => ⟨HPO3.out q a, by
    rcases a with a | a
    · rw [a]; exact Ne.symm HDJ.out.1.1
    · rw [a]; exact Ne.symm HDJ.out.1.2.1, by
    rcases a with a | a
    · rw [a]; exact Ne.symm HDJ.out.1.2.2.1
    · rw [a]; exact Ne.symm HDJ.out.1.2.2.2⟩) HF4.out)
  have HW5 := Hid.mk (sx5.wo HPO3.out (HX4.out.wo HPX3.out HW3.out))
  have HB5 := Hid.mk (sx5.bt (HX4.out.bt HBP0.out))
  have HL5 : Hid (G5.length + 140000 ≤ 585000000) := Hid.mk (by have := HL.out; have := HLW.out; have := HNYB.out; have := HX4.out.len; have := sx5.len; omega)
  clear sx5 fr5 s0 s1 s2 s3 s4 s5 s6 s7
  obtain ⟨f0, f1, f2⟩ := HF5.out.cells
  have i9 : (cw.length : Int) ≤ 1000000 := by omega
  go_wp2_with fail
  clear f0 f1 f2
  go_loopg [31] cw.length (fun gk v31 wr => ∃ (k : Nat) (gv6 : Value) (G6 : List Gate) (vs6 : List Value) (ls6 : List (List Nat)), k + gk = cw.length ∧ v31 = .int .i64 k ∧ SX (pF gF gW) B (fun q => X q ∨ q = gO ∨ q = gW2) P w5 gB cv gc gv5 G5 n (448 * k) wr gv6 G6 ∧ FRM (fun q => X q ∨ q = gO ∨ q = gW2) gc gv6 wr G6 gF oF gW ty cs cw (fun inp => mgV ((kv (evL ex (S inp)) 0).testBit 0) (exL cw th (⟨(S inp).cells, (S inp).fault || anyF (evL ex (S inp))⟩ : PS)) (exL cw el (⟨(S inp).cells, (S inp).fault || anyF (evL ex (S inp))⟩ : PS)) k) vs6 ls6 fb4)
  case atStart => exact ⟨0, gv5, G5, vs4, ls4, by omega, rfl, (ST.refl HX5.out.bs).sx.mono (by omega), HF5.out.congr (fun inp => (mgV_zero _ _ _).symm)⟩
  case round =>
    obtain ⟨k, gv6, G6, vs6, ls6, hkk, rfl, hsx, hfr⟩ := hrel
    have HKK := Hid.mk hkk
    have HX6 := Hid.mk hsx
    have HF6 := Hid.mk hfr
    have HO6 := Hid.mk (hsx.frm HX5.out.bs (fun q a => ⟨HPX3.out q a, by
    rcases a with a | a
    · rw [a]; exact HDJ.out.1.1
    · rw [a]; exact HDJ.out.1.2.2.1, by
    rcases a with a | a
    · rw [a]; exact HDJ.out.1.2.1
    · rw [a]; exact HDJ.out.1.2.2.2⟩) HO5.out)
    have HW6 := Hid.mk (hsx.wo HPX3.out HW5.out)
    have HB6 := Hid.mk (hsx.bt HB5.out)
    have HSZ : Hid (G6.length + 1000 ≤ 690000000) := Hid.mk (by have := HL5.out; have := hsx.len; have := HC4.out; omega)
    clear hsx hfr hkk
    by_cases hlt : k < cw.length
    · have j1 : (k : Int) < cw.length := by omega
      have j2 : (0 : Int) ≤ k := by omega
      obtain ⟨uv, lu, hu1, hu2, hu3, hu4⟩ := HF6.out.word hlt
      obtain ⟨ua, uc, huu, -, -⟩ := hu3.sh hu4
      subst huu
      obtain ⟨tv, lt, ht1, ht2, ht3, ht4⟩ := HO6.out.word hlt
      obtain ⟨ta9, tc9, htt, -, -⟩ := ht3.sh ht4
      subst htt
      have hw64 : (cw.getD k 0).toNat ≤ 64 := by
        have h9 : cw.getD k 0 ∈ cw := by rw [List.getD_eq_getElem?_getD, List.getElem?_eq_getElem hlt]; exact List.getElem_mem hlt
        have := (HWS.out _ h9).2
        omega
      generalize hwdk : (cw.getD k 0).toNat = wdk at *
      go_wp2_with fail
      refine br8_c gB gF oF gW gO gW2 vb0 vo0 vc0 cw.length k p0 ua wdk uc ta9 tc9 rfl rfl rfl rfl rfl rfl (fun p W => RV B (fun q => X q ∨ q = gO ∨ q = gW2) P gB cv gc gv6 wr.drew G6 n 448 wdk (fun inp => if ((kv (evL ex (S inp)) 0).testBit 0) then (mgV ((kv (evL ex (S inp)) 0).testBit 0) (exL cw th (⟨(S inp).cells, (S inp).fault || anyF (evL ex (S inp))⟩ : PS)) (exL cw el (⟨(S inp).cells, (S inp).fault || anyF (evL ex (S inp))⟩ : PS)) k).at k else ((exL cw el (⟨(S inp).cells, (S inp).fault || anyF (evL ex (S inp))⟩ : PS))).at k) (.returned p) W) (fun W => ∃ K gv' G', ST B (fun q => X q ∨ q = gO ∨ q = gW2) P wr gB cv gc gv6 G6 n K W gv' G') ?_ hlt ⟨_, _, _, ST.keep HX6.out.bs (Keep.refl wr).drew⟩ ?_ ?_ ?_
      · rintro W ⟨K9, gv9, G9, s9⟩
        have a1 := (s9.frm HX6.out.bs HF6.out).cells.1
        have a2 := (s9.frm HX6.out.bs HF6.out).aw.cell k
        have a3 := HF6.out.aw.cell k
        have b1 := (s9.frm HX6.out.bs HO6.out).cells.1
        have b2 := (s9.frm HX6.out.bs HO6.out).aw.cell k
        have b3 := HO6.out.aw.cell k
        exact ⟨a1, (s9.wo HW6.out).at0 HP0.out, by rw [Nat.zero_add, a2, ← a3]; exact hu1, b1, by rw [Nat.zero_add, b2, ← b3]; exact ht1⟩
      · rintro p W ⟨gv9, G9, l9, a9, c9, e9, b9, s9, x9, wo9, wv9⟩
        exact ⟨_, gv9, G9, (ST.keep HX6.out.bs (Keep.refl wr).drew).trans ⟨b9, s9, x9⟩⟩
      · refine (mux_k (HX6.out.bs.keep (Keep.refl wr).drew) HB6.out (hu3.stepX (Stp.keep (Keep.refl wr).drew)) hu4 (ht3.stepX (Stp.keep (Keep.refl wr).drew)) ht4 hw64 (by have := HSZ.out; omega)).mono ?_
        rintro e w9 ⟨gv9, G9, l9, a9, c9, e9, r9⟩
        exact ⟨_, e9, gv9, G9, l9, a9, c9, rfl, r9⟩
      · rintro p W ⟨gv9, G9, l9, a9, c9, e9, b9, s9, x9, wo9, wv9⟩
        obtain rfl : p = .slice a9 wdk c9 := by injection e9
        have s10 : ST B (fun q => X q ∨ q = gO ∨ q = gW2) P wr gB cv gc gv6 G6 n 448 W gv9 G9 := ((ST.keep HX6.out.bs (Keep.refl wr).drew).trans ⟨b9, s9, x9⟩).mono (by omega)
        have fa := s10.frm HX6.out.bs HF6.out
        obtain ⟨v8, l8, g1, g2, -, -⟩ := fa.word hlt
        have fp := fa.put hlt wo9 (by rw [hwdk]; exact wv9)
        have HFP := Hid.mk fp
        have HXP := Hid.mk (SX.put (HX6.out.thn s10) fa k (.slice a9 wdk c9))
        refine ⟨⟨_, _, _, rfl⟩, ⟨v8, by rw [Nat.zero_add]; exact g1⟩, by rw [Nat.zero_add]; exact g2, ?_⟩
        rw [Nat.zero_add]
        generalize W.setCell ⟨gW, k, none⟩ (.slice a9 wdk c9) = w10 at *
        clear fp fa g1 g2 e9 b9 s9 x9 wo9 wv9 s10 hu1 hu2 hu3 hu4 ht1 ht2 ht3 ht4 hwdk
        simp only [lay, br8L, List.set_cons_succ, List.set_cons_zero, List.foldl, Act.put, List.setIfInBounds_toArray]
        go_wp2_with fail
        go_roundg (gk - 1)
        case measure => have := HKK.out; omega
        case rel =>
          refine ⟨k + 1, gv9, G9, _, _, by have := HKK.out; omega, by go_num, HXP.out.mono (by omega), HFP.out.congr (fun inp => ?_)⟩
          rw [mgV_next _ _ _ _ (by rw [(HTHL.out inp).1]; exact hlt)]
    · have j1 : ¬ (k : Int) < cw.length := by omega
      obtain rfl : k = cw.length := by have := HKK.out; omega
      go_wp2_with fail
      refine b10_c gB gF oF gO vb0 vo0 vc0 p0 fb4 fb5 rfl rfl rfl rfl rfl (fun rb ro rc bit W => ∃ gv9 G9 l9, ST B (fun q => X q ∨ q = gO ∨ q = gW2) P wr gB cv gc gv6 G6 n 448 W gv9 G9 ∧ WO (fpX gc gv9 (fun q => X q ∨ q = gO ∨ q = gW2)) W (.slice (some ⟨rb, ro, none⟩) 1 rc) l9 ∧ l9[0]? = some bit ∧ Bt G9 bit (fun inp => if ((kv (evL ex (S inp)) 0).testBit 0) then ((exL cw th (⟨(S inp).cells, (S inp).fault || anyF (evL ex (S inp))⟩ : PS))).fault else ((exL cw el (⟨(S inp).cells, (S inp).fault || anyF (evL ex (S inp))⟩ : PS))).fault)) ?_ ?_ ?_ ?_
      · intro W kW9
        have s9 : ST B (fun q => X q ∨ q = gO ∨ q = gW2) P wr gB cv gc gv6 G6 n 0 W gv6 G6 := ST.keep HX6.out.bs ((Keep.refl wr).drew.trans kW9)
        exact ⟨(s9.wo HW6.out).at0 HP0.out, (s9.frm HX6.out.bs HF6.out).cells.2.1, (s9.frm HX6.out.bs HO6.out).cells.2.1⟩
      · rintro rb ro rc bit W ⟨gv9, G9, l9, s9, wo9, hl9, bt9⟩
        exact ⟨⟨(s9.wo HW6.out).at0 HP0.out, (s9.frm HX6.out.bs HF6.out).cells.2.1, (s9.frm HX6.out.bs HO6.out).cells.2.1⟩, wo9.at0 hl9⟩
      · intro W ga gb kW9 aA aB hA9 hB9
        have k9 := (Keep.refl wr).drew.trans kW9
        refine (mux_k (HX6.out.bs.keep k9) HB6.out (WO.ofArr HX6.out.bs k9 aA hA9) HF6.out.bf.word (WO.ofArr HX6.out.bs k9 aB hB9) HO6.out.bf.word (by decide) (by have := HSZ.out; omega)).mono ?_
        rintro e w9 ⟨gv9, G9, l9, a9, c9, e9, b9, s9, x9, wo9, wv9⟩
        obtain ⟨rb, ro, hrb⟩ := wo9.blk (by rw [wv9.len]; decide)
        subst hrb
        obtain ⟨bit, hbit, hbt⟩ := wv9.first (Nat.le_refl _)
        refine ⟨rb, ro, c9, bit, e9, gv9, G9, l9, ((ST.keep HX6.out.bs k9).trans ⟨b9, s9, x9⟩).mono (by omega), wo9, hbit, hbt.congr (fun inp => ?_)⟩
        have hmf : (mgV ((kv (evL ex (S inp)) 0).testBit 0) (exL cw th (⟨(S inp).cells, (S inp).fault || anyF (evL ex (S inp))⟩ : PS)) (exL cw el (⟨(S inp).cells, (S inp).fault || anyF (evL ex (S inp))⟩ : PS)) cw.length).fault = ((exL cw th (⟨(S inp).cells, (S inp).fault || anyF (evL ex (S inp))⟩ : PS))).fault := rfl
        rw [hmf]
        generalize ((exL cw th (⟨(S inp).cells, (S inp).fault || anyF (evL ex (S inp))⟩ : PS))).fault = tf
        generalize ((exL cw el (⟨(S inp).cells, (S inp).fault || anyF (evL ex (S inp))⟩ : PS))).fault = ef
        generalize ((kv (evL ex (S inp)) 0).testBit 0) = cc9
        cases cc9 <;> cases tf <;> cases ef <;> rfl
      · rintro p Wz ⟨gv9, G9, l9, s9, wo9, hl9, bt9⟩
        have fa := s9.frm HX6.out.bs HF6.out
        have ff := fa.flt s9.bs bt9
        have HFF := Hid.mk ff
        have HSF := Hid.mk (SX.flt (HX6.out.thn s9) fa (.int .i64 ((p.bit : Nat) : Int)))
        refine ⟨fa.cells.2.2, ?_⟩
        generalize Wz.setCell ⟨gF, oF + 1, none⟩ (.int .i64 ((p.bit : Nat) : Int)) = w10 at *
        clear fa ff s9 wo9 hl9 bt9
        simp only [lay, b10L, List.foldl, Act.put, List.setIfInBounds_toArray, List.set_cons_succ, List.set_cons_zero]
        go_wp2_with fail
        go_end0
        have hY : SY (fun q => pF gF gW q ∨ pF gO gW2 q) gc gv gv9 W w10 := ((((HX2.out.sy.mono (fun q _ a => Or.inl a)).trans (SY.keep HK3.out)).trans (HX4.out.sy.mono (fun q _ a => Or.inl a))).trans (HX5.out.sy.mono (fun q _ a => Or.inr a))).trans (HSF.out.sy.mono (fun q _ a => Or.inl a))
        have hE := (((HX2.out.ex.trans HX4.out.ex).trans HX5.out.ex).trans HSF.out.ex).mono (show 1028 * nE ex + 4 + 131072 * nS th + 131072 * nS el + (448 * cw.length + 448) ≤ 131072 * nY (f, ex, th, el) by have := HNYB.out; have := HC4.out; omega)
        have hszW := HX2.out.sy.size
        have hsx : SX (pF gF gW) B X P W gB cv gc gv G n (131072 * nY (f, ex, th, el)) w10 gv9 G9 := ⟨HSF.out.bs.less (fun q a => Or.inl a), hY.mono (fun q hq a => by
          rcases a with a | a
          · exact a
          · have h8 := HDJ.out.2
            rcases a with a | a <;> omega), hE⟩
        refine ⟨gv9, G9, _, _, _, rfl, (HKE.out.trans hsx).mono (by omega), (HFF.out.less (fun q a => Or.inl a) (HPX.out gF (Or.inl rfl)) (HPX.out gW (Or.inr rfl))).congr (fun inp => ?_)⟩
        rw [HRX.out]
        have h1 := HTHL.out inp
        have h2 := mgV_all ((kv (evL ex (S inp)) 0).testBit 0) (exL cw th (⟨(S inp).cells, (S inp).fault || anyF (evL ex (S inp))⟩ : PS)) (exL cw el (⟨(S inp).cells, (S inp).fault || anyF (evL ex (S inp))⟩ : PS)) (h1.2.trans h1.1.symm)
        rw [h1.1] at h2
        rw [h2]
        cases ((kv (evL ex (S inp)) 0).testBit 0) <;> rfl
end Go.Proofs.Qxb6500772a
