/- blast: inputs. -/
import Derived.Test.Qxb6500772aDm
import Derived.Test.Qxb6500772aTh
namespace Go.Proofs.Qxb6500772a
open Go.RowKit Go.Qm
set_option linter.unusedVariables false
set_option linter.unusedSimpArgs false
attribute [local go_sem ↓] Go.wp_at_zero Go.wp_at_succ
theorem inf96 : (Try.prog.info? 96).map (fun i => (i.zero, i.size, i.bytes)) = some (some (.slice none 0 0), 1, 24) := by kernel_rfl
/-- A step that writes the blocks of Y, too. -/
structure SX (Y : Nat → Prop) (B : Nat) (X P : Nat → Prop) (w : World) (gB : Nat) (cv : Value) (gc : Nat) (gv : Value) (G : List Gate) (n K : Nat) (w' : World) (gv' : Value) (G' : List Gate) : Prop where
  bs : BS B X P w' gB cv gc gv' G' n
  sy : SY Y gc gv gv' w w'
  ex : Ext K G G'
section
variable {Y Z : Nat → Prop} {B : Nat} {X P : Nat → Prop} {w w1 w' : World} {gB : Nat} {cv : Value} {gc : Nat} {gv gv1 gv' : Value} {G G1 G' : List Gate} {n K K' : Nat}
theorem ST.sx (h : ST B X P w gB cv gc gv G n K w' gv' G') : SX Y B X P w gB cv gc gv G n K w' gv' G' := ⟨h.bs, SY.of h.st, h.ex⟩
theorem SX.trans (h : SX Y B X P w gB cv gc gv G n K w1 gv1 G1) (k : SX Y B X P w1 gB cv gc gv1 G1 n K' w' gv' G') : SX Y B X P w gB cv gc gv G n (K + K') w' gv' G' := ⟨k.bs, h.sy.trans k.sy, h.ex.trans k.ex⟩
theorem SX.thn (h : SX Y B X P w gB cv gc gv G n K w1 gv1 G1) (k : ST B X P w1 gB cv gc gv1 G1 n K' w' gv' G') : SX Y B X P w gB cv gc gv G n (K + K') w' gv' G' := h.trans k.sx
theorem SX.mono (h : SX Y B X P w gB cv gc gv G n K w' gv' G') (hk : K ≤ K') : SX Y B X P w gB cv gc gv G n K' w' gv' G' := ⟨h.bs, h.sy, h.ex.mono hk⟩
theorem SX.wider (h : SX Y B X P w gB cv gc gv G n K w' gv' G') (hz : ∀ q, q < w.heap.size → Y q → Z q) : SX Z B X P w gB cv gc gv G n K w' gv' G' := ⟨h.bs, h.sy.mono hz, h.ex⟩
theorem SX.set (h : SX Y B X P w gB cv gc gv G n K w' gv' G') {b i : Nat} (hb : Y b) (hx : X b) (u : Value) : SX Y B X P w gB cv gc gv G n K (w'.setCell ⟨b, i, none⟩ u) gv' G' := ⟨h.bs.set hx u, h.sy.set (Or.inl hb) u, h.ex⟩
theorem SX.keep (h : SX Y B X P w gB cv gc gv G n K w1 gv1 G1) (k : Keep w1 w') : SX Y B X P w gB cv gc gv G n K w' gv1 G1 := (h.thn (ST.keep h.bs k)).mono (by omega)
theorem SX.drew (h : SX Y B X P w gB cv gc gv G n K w1 gv1 G1) : SX Y B X P w gB cv gc gv G n K w1.drew gv1 G1 := h.keep (Keep.refl _).drew
theorem SX.kp (h : SX Y B X P w gB cv gc gv G n K w' gv' G') (b : BS B X P w gB cv gc gv G n) (hY : ∀ q, Y q → X q) : KP P w w' := b.kp hY h.sy
theorem SX.wo (h : SX Y B X P w gB cv gc gv G n K w' gv' G') (hY : ∀ q, Y q → X q) {v : Value} {l : List Nat} (a : WO (fpX gc gv X) w v l) : WO (fpX gc gv' X) w' v l := a.stepY hY h.sy
theorem SX.wv (h : SX Y B X P w gB cv gc gv G n K w' gv' G') {l : List Nat} {wd : Nat} {f : WF} (a : Wv G l wd f) : Wv G' l wd f := a.ext h.ex.pre
theorem SX.bt (h : SX Y B X P w gB cv gc gv G n K w' gv' G') {b : Nat} {f : BF} (a : Bt G b f) : Bt G' b f := a.ext h.ex.pre
theorem SX.frm (h : SX Y B X P w gB cv gc gv G n K w' gv' G') (b : BS B X P w gB cv gc gv G n) {gF oF gW : Nat} {ty : TypeId} {cs : List Value} {cw : List Int} {S : SS} {vs : List Value} {ls : List (List Nat)} {fb : Nat} (hY : ∀ q, Y q → X q ∧ q ≠ gF ∧ q ≠ gW) (a : FRM X gc gv w G gF oF gW ty cs cw S vs ls fb) : FRM X gc gv' w' G' gF oF gW ty cs cw S vs ls fb := a.stepY b hY h.sy h.ex
theorem SX.arr (h : SX Y B X P w gB cv gc gv G n K w' gv' G') {g : Nat} {t : TypeId} {cs : List Value} (a : Arr w g t cs) (hg : ¬ fpC gc gv g) (hy : ¬ Y g) : Arr w' g t cs := h.sy.fr.arr (fun e => e.elim hg hy) a
theorem SX.len (h : SX Y B X P w gB cv gc gv G n K w' gv' G') : G'.length ≤ G.length + K := h.ex.len
theorem SX.less (h : SX Y B X P w gB cv gc gv G n K w' gv' G') {Z : Nat → Prop} (hZ : ∀ q, Z q → X q) : SX Y B Z P w gB cv gc gv G n K w' gv' G' := ⟨h.bs.less hZ, h.sy, h.ex⟩
end
/-- The words of a statement's expressions, in a block of their own. -/
structure VL (X : Nat → Prop) (gc : Nat) (gv : Value) (w : World) (G : List Gate) (gV : Nat) (ex : EL) (S : SS) (wv : List Value) (wl : List (List Nat)) : Prop where
  ar : Arr w gV 96 wv
  lv : wv.length = ex.toL.length
  ll : wl.length = ex.toL.length
  nb : ¬ fpX gc gv X gV
  wo : ∀ i (h1 : i < wv.length) (h2 : i < wl.length), WO (fpX gc gv X) w wv[i] wl[i]
  wv : ∀ i (h : i < wl.length), Wv G wl[i] (kw ex.ws i) (fun inp => kv (evL ex (S inp)) i)
/-- What inputs leaves. -/
def RI (B : Nat) (X P : Nat → Prop) (gB : Nat) (cv : Value) (gc : Nat) (gv : Value) (w : World) (G : List Gate) (n K gF oF gW : Nat) (ty : TypeId) (cs : List Value) (cw : List Int) (S : SS) (vs : List Value) (ls : List (List Nat)) (ex : EL) (e : Ending) (w' : World) : Prop :=
  ∃ gv' G' gV wv wl fb', e = .returned (.slice (some ⟨gV, 0, none⟩) ex.toL.length ex.toL.length) ∧ SX (fun q => q = gF) B X P w gB cv gc gv G n K w' gv' G' ∧ FRM X gc gv' w' G' gF oF gW ty cs cw (fun inp => ⟨(S inp).cells, (S inp).fault || anyF (evL ex (S inp))⟩) vs ls fb' ∧ VL X gc gv' w' G' gV ex S wv wl
structure IL (B : Nat) (X P : Nat → Prop) (w : World) (gB : Nat) (cv : Value) (gc : Nat) (gv : Value) (G : List Gate) (n gF oF gW : Nat) (ty : TypeId) (cs : List Value) (cw : List Int) (S : SS) (vs : List Value) (ls : List (List Nat)) (fb gV : Nat) (ex : EL) (k : Nat) (wr : World) (gv1 : Value) (G1 : List Gate) (fl : Nat) (wv : List Value) (wl : List (List Nat)) : Prop where
  sx : SX (fun q => q = gV) B (fun q => X q ∨ q = gV) P w gB cv gc gv G n (1028 * nEs (ex.toL.take k)) wr gv1 G1
  ar : Arr wr gV 96 (wv ++ List.replicate (ex.toL.length - k) (.slice none 0 0))
  lv : wv.length = k
  ll : wl.length = k
  wo : ∀ i (h1 : i < wv.length) (h2 : i < wl.length), WO (fpX gc gv1 (fun q => X q ∨ q = gV)) wr wv[i] wl[i]
  wv : ∀ i (h : i < wl.length), Wv G1 wl[i] (kw ex.ws i) (fun inp => kv (evL ex (S inp)) i)
  fl : Bt G1 fl (fun inp => ((evL ex (S inp)).take k).any (·.2))
theorem vset {wv : List Value} {k m : Nat} (hl : wv.length = k) (hk : k < m) (v : Value) : (wv ++ List.replicate (m - k) (Value.slice none 0 0)).set k v = (wv ++ [v]) ++ List.replicate (m - (k + 1)) (Value.slice none 0 0) := by
  rw [List.set_append_right _ _ (by omega), hl, Nat.sub_self, show m - k = (m - (k + 1)) + 1 by omega, List.replicate_succ, List.set_cons_zero, List.append_assoc]
  rfl
set_option maxRecDepth 4000 in
set_option maxHeartbeats 4000000 in
theorem inputs_c {P : Nat → Prop} {B : Nat} {X : Nat → Prop} {w : World} {gB : Nat} {cv : Value} {gc : Nat} {gv : Value} {G : List Gate} {n gF oF gW : Nat} {ty : TypeId} {cs : List Value} {cw : List Int} {S : SS} {vs : List Value} {ls : List (List Nat)} {fb : Nat} (h : BS B X P w gB cv gc gv G n) (hF : FRM X gc gv w G gF oF gW ty cs cw S vs ls fb) (hW : WsOK cw) (hcl : cw.length ≤ 1000000) (f : SF) {ex : EL} {ev tv lv : Value} {er : List (List Value)} (ht : isSl tv) (hlv : isSl lv) (hr : Rows P w ev 7 er) (he : ELW P w ex er) (hwt : wtL cw ex) (hn : ex.toL.length ≤ 1000) (hl : G.length + 1028 * nE ex ≤ 590000000) :
    Calls Try.prog 63 #[.pointer (some ⟨gB, 0, none⟩), sfA f ev tv lv, .pointer (some ⟨gF, oF, none⟩)] w fun e w' => RI B X P gB cv gc gv w G n (1028 * nE ex + 4) gF oF gW ty cs cw S vs ls ex e w' := by
  obtain ⟨ta, tn, tc, rfl⟩ := ht
  obtain ⟨la, ln, lc, rfl⟩ := hlv
  obtain ⟨ea, ec, hev, ev1, ev2⟩ := hr.form
  have hel := he.len
  rw [hel] at hev ev1
  subst hev
  unfold maxLen at ev2
  unfold EL.len at *
  simp only [sfA]
  have hmk := run_make1 (P := Try.prog) Try.underlying45 inf96 rfl (ex.toL.length : Int) (ex.toL.length : Int) (by omega) (by omega) (by omega) (by omega)
  simp only [Int.toNat_natCast] at hmk
  obtain ⟨W, hWd⟩ : ∃ W, W = w.alloc (.cells #[.int .i64 f.k, .int .i64 f.c, .int .i64 f.l, .int .i64 f.a, .int .i64 f.b, .slice ea ex.toL.length ec, .slice ta tn tc, .slice la ln lc] 109) := ⟨_, rfl⟩
  have hmkw := hmk W
  obtain ⟨V, hVd⟩ : ∃ V, V = W.alloc (.cells (rep ex.toL.length (.slice none 0 0)) 96) := ⟨_, rfl⟩
  rw [← hVd] at hmkw
  have kW : Keep w W := by rw [hWd]; exact (Keep.refl w).alloc _
  have kV : Keep W V := by rw [hVd]; exact (Keep.refl W).alloc _
  have aS : Arr W w.heap.size 109 (SfC f (.slice ea ex.toL.length ec) (.slice ta tn tc) (.slice la ln lc)) := by rw [hWd]; exact Arr.new w 109 _
  have aV : Arr V W.heap.size 96 ([] ++ List.replicate (ex.toL.length - 0) (.slice none 0 0)) := by
    rw [hVd, rep_eq]; exact Arr.new W 96 _
  have hszW : W.heap.size = w.heap.size + 1 := by rw [hWd]; simp
  have hlV := aV.lt
  have B1 : BS B (fun q => X q ∨ q = W.heap.size) P V gB cv gc gv G n := h.more (kW.trans kV) (fun q a => a.imp id (fun e => ⟨by omega, by omega⟩))
  have F1 : FRM (fun q => X q ∨ q = W.heap.size) gc gv V G gF oF gW ty cs cw S vs ls fb := hF.more (kW.trans kV) (fun q a => Or.inl a) (fun q a => a.imp id (fun e => by omega))
  have I0 : IL B X P V gB cv gc gv G n gF oF gW ty cs cw S vs ls fb W.heap.size ex 0 V gv G 0 [] [] := ⟨(ST.refl B1).sx.mono (by omega), aV, rfl, rfl, fun i h1 => by simp at h1, fun i h1 => by simp at h1, h.wf.2.congr (fun inp => by simp)⟩
  obtain ⟨q0, q1, q2, q3, q4, q5, q6, q7⟩ := sfC_cells aS
  obtain ⟨s0, s1, s2, s3, s4, s5, s6, s7⟩ := sfC_cells (aS.keep kV)
  obtain ⟨x0, -⟩ := B1.cells
  have HB1 := Hid.mk B1
  have HF1 := Hid.mk F1
  have HI0 := Hid.mk I0
  have HKV := Hid.mk (kW.trans kV)
  have HRV := Hid.mk (hr.step (KP.of (kW.trans kV)))
  have HEV := Hid.mk (he.step (KP.of (kW.trans kV)))
  have HWT := Hid.mk hwt
  have HWS := Hid.mk hW
  have HL := Hid.mk hl
  have HEL := Hid.mk hel
  have HNS := Hid.mk (nE_sum ex)
  have hgF := h.hX _ hF.xf
  have hgW := h.hX _ hF.xw
  have HFX := Hid.mk (⟨hF.xf, hF.xw⟩ : X gF ∧ X gW)
  have HHX := Hid.mk h.hX
  have HSZ := Hid.mk hszW
  have HAS := Hid.mk (aS.keep kV)
  have HSC : Hid (¬ fpC gc gv w.heap.size ∧ w.heap.size ≠ W.heap.size) := Hid.mk ⟨fun a => by have := (h.cc.flt a).2; omega, by omega⟩
  have HVC : Hid (W.heap.size ≠ gF ∧ W.heap.size ≠ gW ∧ w.heap.size ≤ W.heap.size ∧ ¬ X W.heap.size) := Hid.mk ⟨by omega, by omega, by omega, fun a => by have := h.hX _ a; omega⟩
  have hni : (ex.toL.length : Int) ≤ 1000 := by omega
  clear h hF hW hr he hwt hl hmk kW kV aS aV B1 F1 I0 hel hgF hgW hlV hVd
  go_enter Try.func63, Try.ntmps63
  go_upto_region 1 with fail
  rw [← hWd]
  clear hWd hszW
  generalize W.heap.size = gV at *
  generalize hgS : w.heap.size = gS at *
  clear q0 q1 q2 q3 q4 q6 q7
  go_wp2_with fail
  refine (false_c gc _).mono ?_
  rintro e w3 ⟨rfl, hw⟩
  subst hw
  go_wp2_with fail
  go_loopg [8, 25] ex.toL.length (fun gk v8 v25 wr => ∃ (k : Nat) (gv1 : Value) (G1 : List Gate) (fl : Nat) (wv : List Value) (wl : List (List Nat)), k + gk = ex.toL.length ∧ v25 = .int .i64 k ∧ v8 = .int .i64 (fl : Nat) ∧ IL B X P w3 gB cv gc gv G n gF oF gW ty cs cw S vs ls fb gV ex k wr gv1 G1 fl wv wl)
  case atStart => exact ⟨0, gv, G, 0, [], [], by omega, rfl, rfl, HI0.out⟩
  case round =>
    obtain ⟨k, gv1, G1, fl, wv, wl, hk, rfl, rfl, hil⟩ := hrel
    have HK := Hid.mk hk
    have HIL := Hid.mk hil
    have hsz : G1.length ≤ G.length + 1028 * nEs (ex.toL.take k) := hil.sx.len
    have HSX := Hid.mk hil.sx
    have HFK := Hid.mk (hil.sx.frm HB1.out (fun q e => ⟨Or.inr e, by rw [e]; exact HVC.out.1, by rw [e]; exact HVC.out.2.1⟩) HF1.out)
    have HS9 := Hid.mk hsz
    have hKP := hil.sx.kp HB1.out (fun q e => Or.inr e)
    have HKP := Hid.mk hKP
    clear hil hk hsz
    by_cases hlt : k < ex.toL.length
    · have j1 : (k : Int) < ex.toL.length := by omega
      have j2 : (0 : Int) ≤ k := by omega
      have hrl : k < er.length := by rw [HEL.out]; exact hlt
      obtain ⟨kx, kr, y1, y2, y3, y4⟩ := (HEV.out.step hKP).get k hlt hrl
      obtain ⟨b, o, ha, hp, hbl, hc⟩ := (HRV.out.step hKP).cell hrl
      obtain ⟨xa, xc, hkx, -, -⟩ := y3.form
      subst ha hkx
      have c0 := hc 0 (by decide)
      have c1 := hc 1 (by decide)
      have c2 := hc 2 (by decide)
      have c3 := hc 3 (by decide)
      have c4 := hc 4 (by decide)
      have c5 := hc 5 (by decide)
      have c6 := hc 6 (by decide)
      rw [y1] at c0 c1 c2 c3 c4 c5 c6
      simp only [efC, List.getElem?_cons_zero, List.getElem?_cons_succ, Nat.add_zero] at c0 c1 c2 c3 c4 c5 c6
      have hnk := nEs_take hlt
      have hnl := nEs_le ex.toL (k + 1)
      have hwx := wtL_mm HWT.out _ (List.getElem_mem hlt)
      have hev := evL_get ex
      have HCX : Hid (∀ Z, Keep wr Z → Calls Try.prog 33 #[.pointer (some ⟨gB, 0, none⟩), efA ex.toL[k].1 (.slice xa kr.length xc), .pointer (some ⟨gF, oF, none⟩)] Z fun e w' => RVB B (fun q => X q ∨ q = gV) P gB cv gc gv1 Z G1 n (1024 * nX ex.toL[k]) (kw ex.ws k) (fun inp => kv (evL ex (S inp)) k) (fun inp => kf (evL ex (S inp)) k) e w') := Hid.mk (fun Z kz => by
        have h9 := expr_b (P := P) ex.toL[k].1 ex.toL[k].2 B (fun q => X q ∨ q = gV) Z gB cv gc gv1 G1 n gF oF gW ty cs cw S vs ls fb _ kr (HSX.out.bs.keep kz) (HFK.out.keep kz) HWS.out hcl y2 (y3.step (KP.of kz)) (y4.step (KP.of kz)) hwx.1 hwx.2 (by have := HL.out; have := HS9.out; have := HNS.out; show G1.length + 1024 * nX ex.toL[k] ≤ 600000000; omega)
        have e9 : ∀ inp, evOne ex.toL[k].1 (evL ex.toL[k].2 (S inp)) ex.toL[k].2.ws (S inp) = (evL ex (S inp)).getD k (0, false) := fun inp => (evL_get ex (S inp) k hlt).symm
        have e8 : ex.toL[k].1.w.toNat = kw ex.ws k := by unfold kw; rw [ws_get ex k hlt]
        simp only [e9, e8] at h9
        exact h9)
      have HNK := Hid.mk hnk
      have HNL := Hid.mk hnl
      have HKF : Hid (∀ inp, ((evL ex (S inp)).take (k + 1)).any (·.2) = (((evL ex (S inp)).take k).any (·.2) || kf (evL ex (S inp)) k)) := Hid.mk (fun inp => by
        have hle : k < (evL ex (S inp)).length := by rw [evL_len]; exact hlt
        rw [List.take_succ_eq_append_getElem hle, List.any_append]
        simp [kf, List.getD_eq_getElem?_getD, hle])
      generalize hxk : ex.toL[k].1 = xk at *
      clear hc y1 y2 y3 y4 hwx hev hrl hKP hxk hnk hnl hp hbl
      have hN1 : 1 ≤ nX ex.toL[k] := by have := nX_pos ex.toL[k].1 ex.toL[k].2; show 1 ≤ nX (ex.toL[k].1, ex.toL[k].2); omega
      have HN1 := Hid.mk hN1
      clear hN1
      generalize nX ex.toL[k] = Nk at *
      have hdS := HSX.out.arr HAS.out HSC.out.1 (fun e => HSC.out.2 e)
      have hvl := HIL.out.ar.lt
      clear s0 s1 s2 s3 s4 s5 s6 s7 x0
      go_upto_region 6 with fail
      obtain ⟨Z, hZ⟩ : ∃ Z, Z = wr.alloc (.cells #[.int .i64 xk.k, .int .i64 xk.w, .int .i64 xk.o, .int .u64 (xk.v : Nat), .int .i64 xk.c, .int .i64 xk.l, .slice xa kr.length xc] 31) := ⟨_, rfl⟩
      rw [← hZ]
      have kZ : Keep wr Z := by rw [hZ]; exact (Keep.refl wr).alloc _
      have aZ : Arr Z wr.heap.size 31 (EfC xk (.slice xa kr.length xc)) := by rw [hZ]; exact Arr.new wr 31 _
      obtain ⟨z0, z1, z2, z3, z4, z5, z6⟩ := efC_cells aZ
      have HKZ := Hid.mk kZ
      have HC := Hid.mk (HCX.out Z kZ)
      simp only [efA] at HC
      generalize wr.heap.size = gZ at *
      clear hZ aZ kZ c0 c1 c2 c3 c4 c5 c6
      go_wp2_with fail
      refine HC.out.mono ?_
      rintro e w4 ⟨gv2, G2, l2, pa2, pc2, fb2, rfl, b9, s9, x9, wo9, wv9, bt9⟩
      have HS4 : Hid (ST B (fun q => X q ∨ q = gV) P wr gB cv gc gv1 G1 n (1024 * Nk) w4 gv2 G2) := Hid.mk (((ST.keep HSX.out.bs HKZ.out).trans ⟨b9, s9, x9⟩).mono (by omega))
      have HW4 := Hid.mk wo9
      have HV4 := Hid.mk wv9
      have HT4 := Hid.mk bt9
      have HA4 := Hid.mk (HS4.out.own HSX.out.bs HIL.out.ar (HSX.out.bs.hx gV (Or.inr rfl)).2.1)
      clear b9 s9 x9 wo9 wv9 bt9 z0 z1 z2 z3 z4 z5 z6 HC
      obtain ⟨u1, c1⟩ : ∃ u, w4.cell? ⟨gV, k, none⟩ = some u := ⟨_, (HA4.out.cell k).trans (List.getElem?_eq_getElem (by have := HIL.out.lv; simp; omega))⟩
      have fz := HA4.out.frozen k
      have HX5 : Hid (SX (fun q => q = gV) B (fun q => X q ∨ q = gV) P wr gB cv gc gv1 G1 n (1024 * Nk) (w4.setCell ⟨gV, k, none⟩ (.slice pa2 (kw ex.ws k) pc2)) gv2 G2) := Hid.mk (SX.set (Y := fun q => q = gV) HS4.out.sx rfl (Or.inr rfl) _)
      have HX45 : Hid (SX (fun q => q = gV) B (fun q => X q ∨ q = gV) P w4 gB cv gc gv2 G2 n 0 (w4.setCell ⟨gV, k, none⟩ (.slice pa2 (kw ex.ws k) pc2)) gv2 G2) := Hid.mk (SX.set (Y := fun q => q = gV) (ST.refl HS4.out.bs).sx rfl (Or.inr rfl) _)
      have HA5 : Hid (Arr (w4.setCell ⟨gV, k, none⟩ (.slice pa2 (kw ex.ws k) pc2)) gV 96 ((wv ++ [.slice pa2 (kw ex.ws k) pc2]) ++ List.replicate (ex.toL.length - (k + 1)) (.slice none 0 0))) := Hid.mk (by
        have h9 := HA4.out.set k (.slice pa2 (kw ex.ws k) pc2)
        rw [vset HIL.out.lv hlt] at h9
        exact h9)
      have HC78 : Hid (Calls Try.prog 78 #[.pointer (some ⟨gB, 0, none⟩), .int .i64 (fl : Nat), .int .i64 (fb2 : Nat)] (w4.setCell ⟨gV, k, none⟩ (.slice pa2 (kw ex.ws k) pc2)) fun e w' => RB B (fun q => X q ∨ q = gV) P gB cv gc gv2 (w4.setCell ⟨gV, k, none⟩ (.slice pa2 (kw ex.ws k) pc2)) G2 n 4 (fun i => ((evL ex (S i)).take k).any (·.2) || kf (evL ex (S i)) k) e w') := Hid.mk (or_k HX5.out.bs (HX5.out.bt HIL.out.fl) HT4.out (by have := HL.out; have := HS9.out; have := HS4.out.len; have := HNS.out; have := HNK.out; have := HNL.out; omega))
      go_upto_region 8 with fail
      generalize w4.setCell ⟨gV, k, none⟩ (.slice pa2 (kw ex.ws k) pc2) = W5 at *
      clear c1 fz
      go_wp2_with fail
      refine HC78.out.mono ?_
      rintro e w6 ⟨gv3, G3, b3, rfl, b9, s9, x9, bt9⟩
      have HS6 : Hid (ST B (fun q => X q ∨ q = gV) P W5 gB cv gc gv2 G2 n 4 w6 gv3 G3) := Hid.mk ⟨b9, s9, x9⟩
      have HT6 := Hid.mk bt9
      clear b9 s9 x9 bt9
      go_wp2_with fail
      go_roundg (gk - 1)
      case measure => have := HK.out; omega
      case rel =>
        have hX6 := (HX5.out.thn HS6.out).mono (show 1024 * Nk + 4 ≤ 1028 * Nk by have := HN1.out; omega)
        refine ⟨k + 1, gv3, G3, b3, _, wl ++ [l2], by have := HK.out; omega, by go_num, rfl, (HSX.out.trans hX6).mono (by have := HNK.out; omega), HS6.out.own HX5.out.bs HA5.out (HX5.out.bs.hx gV (Or.inr rfl)).2.1, by simp [HIL.out.lv], by simp [HIL.out.ll], fun i h1 h2 => ?_, fun i h1 => ?_, HT6.out.congr (fun inp => (HKF.out inp).symm)⟩
        · have l1 := HIL.out.lv
          have l2' := HIL.out.ll
          by_cases e : i < k
          · rw [List.getElem_append_left (by omega), List.getElem_append_left (by omega)]
            exact hX6.wo (fun q e => Or.inr e) (HIL.out.wo i (by omega) (by omega))
          · have e2 : i = k := by simp at h1; omega
            subst e2
            rw [List.getElem_append_right (by omega), List.getElem_append_right (by omega)]
            simp only [l1, l2', Nat.sub_self, List.getElem_cons_zero]
            exact (HX45.out.thn HS6.out).wo (fun q e => Or.inr e) HW4.out
        · have l2' := HIL.out.ll
          by_cases e : i < k
          · rw [List.getElem_append_left (by omega)]
            exact hX6.wv (HIL.out.wv i (by omega))
          · have e2 : i = k := by simp at h1; omega
            subst e2
            rw [List.getElem_append_right (by omega)]
            simp only [l2', Nat.sub_self, List.getElem_cons_zero]
            exact (HX45.out.thn HS6.out).wv HV4.out
    · have j1 : ¬ (k : Int) < ex.toL.length := by omega
      have hkn : k = ex.toL.length := by have := HK.out; omega
      have HKN := Hid.mk hkn
      obtain ⟨f0, f1, f2⟩ := HFK.out.cells
      have HC78 := Hid.mk (or_k HSX.out.bs HFK.out.bf HIL.out.fl (by have := HL.out; have := HS9.out; have := HNS.out; have := nEs_le ex.toL k; omega))
      clear hkn s0 s1 s2 s3 s4 s5 s6 s7 x0 hKP
      go_wp2_with fail
      refine HC78.out.mono ?_
      rintro e w6 ⟨gv3, G3, b3, rfl, b9, s9, x9, bt9⟩
      have HS6 : Hid (ST B (fun q => X q ∨ q = gV) P wr gB cv gc gv1 G1 n 4 w6 gv3 G3) := Hid.mk ⟨b9, s9, x9⟩
      have HT6 := Hid.mk bt9
      have HF6 := Hid.mk (HS6.out.frm HSX.out.bs HFK.out)
      clear b9 s9 x9 bt9 f0 f1 f2
      obtain ⟨f0, f1, f2⟩ := HF6.out.cells
      go_wp2_with fail
      go_ret
      have kn := HKN.out
      have hxF : X gF := HFX.out.1
      have hfr := HF6.out.flt HS6.out.bs HT6.out
      have hbs := HS6.out.bs.set (b := gF) (i := oF + 1) (Or.inl hxF) (.int .i64 ((b3 : Nat) : Int))
      have hsy : SY (fun q => q = gV ∨ q = gF) gc gv gv3 w (w6.setCell ⟨gF, oF + 1, none⟩ (.int .i64 ((b3 : Nat) : Int))) := SY.set (Y := fun q => q = gV ∨ q = gF) (((SY.keep HKV.out).trans (HSX.out.sy.mono (fun q _ e => Or.inl e))).trans (SY.of HS6.out.st)) (Or.inl (Or.inr rfl)) _
      have hex : Ext (1028 * nE ex + 4) G G3 := (HSX.out.ex.trans HS6.out.ex).mono (by have := HNS.out; have := nEs_le ex.toL k; omega)
      have hA6 := HS6.out.own HSX.out.bs HIL.out.ar (HSX.out.bs.hx gV (Or.inr rfl)).2.1
      rw [← kn, Nat.sub_self, List.replicate_zero, List.append_nil] at hA6
      have hA7 := (Fr.setCell (P := fun q => q = gF) (p := ⟨gF, oF + 1, none⟩) (Fr.refl _ w6) (Or.inl rfl) (.int .i64 ((b3 : Nat) : Int))).arr (fun e => HVC.out.1 e) hA6
      have hX7 : SX (fun q => q = gF) B (fun q => X q ∨ q = gV) P wr gB cv gc gv1 G1 n 4 (w6.setCell ⟨gF, oF + 1, none⟩ (.int .i64 ((b3 : Nat) : Int))) gv3 G3 := SX.set (Y := fun q => q = gF) HS6.out.sx rfl (Or.inl hxF) _
      refine ⟨gv3, G3, gV, wv, wl, b3, rfl, ⟨hbs.less (fun q a => Or.inl a), hsy.mono (fun q hq a => ?_), hex⟩, (hfr.less (fun q a => Or.inl a) HFX.out.1 HFX.out.2).congr (fun inp => ?_), hA7, by rw [HIL.out.lv, kn], by rw [HIL.out.ll, kn], fun a => ?_, fun i h1 h2 => ((hX7.wo (fun q e => Or.inl (by rw [show q = gF from e]; exact hxF)) (HIL.out.wo i h1 h2)).lessX (fun q a => Or.inl a)), fun i h1 => hX7.wv (HIL.out.wv i h1)⟩
      · rcases a with a | a
        · have := HVC.out.2.2.1
          rw [a] at hq
          omega
        · exact a
      · have : (evL ex (S inp)).take k = evL ex (S inp) := List.take_of_length_le (by rw [evL_len]; omega)
        rw [this]; rfl
      · rcases a with a | a
        · exact (hbs.hx gV (Or.inr rfl)).2.1 a
        · exact HVC.out.2.2.2 a
end Go.Proofs.Qxb6500772a
