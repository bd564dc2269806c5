/- blast: pins of the state behind the scan. -/
import Derived.Test.Qxb6500772aHd
namespace Go.Proofs.Qxb6500772a
open Go.RowKit Go.Qm
set_option linter.unusedVariables false
set_option linter.unusedSimpArgs false
attribute [local go_sem ↓] Go.wp_at_zero Go.wp_at_succ
set_option maxRecDepth 8000 in
set_option maxHeartbeats 8000000 in
theorem pins1_c {P : Nat → Prop} {cels : List Cel} {ws : List Int} {B : Nat} {X : Nat → Prop} {w : World} {gB : Nat} {cv : Value} {gc gS : Nat} {cs : List Value} {gv : Value} {G : List Gate} {n : Nat} {pv : Value} {pl : List PinV} {bv' kb : Value} {f : EF}
    (hws : ws = cels.map (fun c => if c.inp = true then 0 else c.w)) (hcl : cels.length ≤ 256) (hwo : ∀ c ∈ cels, 1 ≤ c.w ∧ c.w ≤ 64) (h : PB B X P gB cv gc gS cs w gv G n pv pl) (h0 : cs[0]? = some (.pointer (some ⟨gc, 0, none⟩))) (hl13 : cs.length = 13) (hc : CsW P w cv cels) (hbv : isSl bv') (hkb : isSl kb) (hB : B ≤ w.heap.size) (hl : G.length ≤ 100000) (hn : n ≤ 100000) (hp : pl.length ≤ 100000) :
    Calls Try.prog 26 #[.pointer (some ⟨gS, 0, none⟩), prA cv bv' f kb, .int .i64 1] w fun e w' => RP B X P gB cv gc gS cs w gv G n pv pl 1 ws e w' := by
  obtain ⟨ca, cc, hcv, cv1, cv2⟩ := hc.form
  obtain ⟨ba, bn, bc, rfl⟩ := hbv
  obtain ⟨ka, kn, kc, rfl⟩ := hkb
  have HCV := Hid.mk hcv
  unfold maxLen at cv2
  simp only [prA]
  have hlen : ws.length = cels.length := by rw [hws, List.length_map]
  have HWS := Hid.mk hws
  have HLEN := Hid.mk hlen
  have hle : ∀ a ∈ ws, a ≤ 64 := by
    intro a ha
    rw [hws] at ha
    obtain ⟨c, hc1, rfl⟩ := List.mem_map.1 ha
    split <;> first | decide | exact (hwo c hc1).2
  have HOFF := Hid.mk (offW_le hle)
  have HWO := Hid.mk hwo
  have HPL := Hid.mk hp
  have HLN := Hid.mk hl
  have HNN := Hid.mk hn
  have HBB := Hid.mk hB
  have H0 := Hid.mk h0
  have H13 := Hid.mk hl13
  have HPB := Hid.mk h
  have HC := Hid.mk hc
  have i1 : (cels.length : Int) ≤ 256 := by omega
  have hmk := run_make1 (P := Try.prog) Try.underlying45 inf96 rfl (cels.length : Int) (cels.length : Int) (by omega) (by omega) (by omega) (by omega)
  simp only [Int.toNat_natCast] at hmk
  obtain ⟨W, hWd⟩ : ∃ W, W = (w.alloc (.cells #[cv, .slice ba bn bc, .int .i64 f.k, .int .i64 f.w, .int .i64 f.o, .int .u64 (f.v : Nat), .int .i64 f.c, .int .i64 f.l, .slice ka kn kc] 33)).alloc (.cells #[.slice none 0 0, .int .i64 0] 48) := ⟨_, rfl⟩
  have hmkw := hmk W
  obtain ⟨V, hVd⟩ : ∃ V, V = W.alloc (.cells (rep cels.length (.slice none 0 0)) 96) := ⟨_, rfl⟩
  rw [← hVd] at hmkw
  obtain ⟨U, hUd⟩ : ∃ U, U = V.alloc (.cells #[.slice (some ⟨W.heap.size, 0, none⟩) cels.length cels.length, .int .i64 0] 48) := ⟨_, rfl⟩
  have aP : Arr W w.heap.size 33 [cv, .slice ba bn bc, .int .i64 f.k, .int .i64 f.w, .int .i64 f.o, .int .u64 (f.v : Nat), .int .i64 f.c, .int .i64 f.l, .slice ka kn kc] := by rw [hWd]; exact (Arr.new w 33 _).keep ((Keep.refl _).alloc _)
  have hwz : (w.alloc (.cells #[cv, .slice ba bn bc, .int .i64 f.k, .int .i64 f.w, .int .i64 f.o, .int .u64 (f.v : Nat), .int .i64 f.c, .int .i64 f.l, .slice ka kn kc] 33)).heap.size = w.heap.size + 1 := by simp
  have a6 : Arr W (w.heap.size + 1) 48 [.slice none 0 0, .int .i64 0] := by rw [hWd, ← hwz]; exact Arr.new _ 48 _
  have kW : Keep w W := by rw [hWd]; exact ((Keep.refl w).alloc _).alloc _
  have kV : Keep W V := by rw [hVd]; exact (Keep.refl W).alloc _
  have kU : Keep V U := by rw [hUd]; exact (Keep.refl V).alloc _
  have aV : Arr V W.heap.size 96 ([] ++ List.replicate (ws.length - 0) (.slice none 0 0)) := by rw [hVd, rep_eq, hlen]; exact Arr.new W 96 _
  have aU : Arr U V.heap.size 48 [.slice (some ⟨W.heap.size, 0, none⟩) cels.length cels.length, .int .i64 0] := by rw [hUd]; exact Arr.new V 48 _
  have sW : W.heap.size = w.heap.size + 2 := by rw [hWd]; simp
  have sV : V.heap.size = W.heap.size + 1 := by rw [hVd]; simp
  have hpc : W.cell? ⟨w.heap.size, 0, none⟩ = some cv := aP.cell 0
  have hpcU : U.cell? ⟨w.heap.size, 0, none⟩ = some cv := ((aP.keep kV).keep kU).cell 0
  rw [hcv] at hpc hpcU
  have KU := (kW.trans kV).trans kU
  obtain ⟨PU, TU⟩ := h.more (Y := fun _ => False) KU (Z := fun q => X q ∨ (w.heap.size ≤ q ∧ q < U.heap.size)) (fun q a => Or.inl a) (fun q a => a)
  have HTU := Hid.mk TU
  have HPK0 : Hid (PK B (fun q => X q ∨ (w.heap.size ≤ q ∧ q < U.heap.size)) P gB cv gc gS cs U gv G n pv pl 1 ws W.heap.size 0 U gv G pv (fun q => X q ∨ (w.heap.size ≤ q ∧ q < U.heap.size)) [] []) := Hid.mk ⟨by simpa [pinK, offW] using PU, PT.refl U, (Ext.refl PU.bs.wf).mono (Nat.zero_le _), aV.keep kU, rfl, rfl, fun i h1 => by simp at h1, fun i h1 => by simp at h1⟩
  have HAP := Hid.mk ((aP.keep kV).keep kU)
  have HA6 := Hid.mk ((a6.keep kV).keep kU)
  have HAF := Hid.mk aU
  have HSZ : Hid (w.heap.size ≤ U.heap.size) := Hid.mk KU.size
  have HKU := Hid.mk KU
  have hgS := h.ar.lt
  have hpvb : ∀ q, pv.ownBlock = some q → q < w.heap.size := fun q a => h.bs.hX q (h.px q a).1
  have HNEW : Hid (∀ q, w.heap.size ≤ q → ¬ fpC gc gv q ∧ q ≠ gS ∧ pv.ownBlock ≠ some q) := Hid.mk (fun q hq => ⟨fun a => by have := (h.bs.cc.flt a).2; omega, by omega, fun a => by have := hpvb q a; omega⟩)
  have sU := aU.lt
  obtain ⟨gp, hgp⟩ : ∃ gp, gp = w.heap.size := ⟨_, rfl⟩
  have HB4 : Hid (gp = w.heap.size ∧ w.heap.size + 2 = W.heap.size ∧ W.heap.size + 1 = V.heap.size ∧ V.heap.size < U.heap.size) := Hid.mk ⟨hgp, by omega, by omega, sU⟩
  rw [HCV.out] at hWd
  clear hmk aP a6 kW kV kU aV aU PU TU hpvb sU hgS h hwz KU hc hws hle hwo hl hn hp h0 hl13 hVd
  go_enter Try.func26, Try.ntmps26
  rw [hcv]
  go_upto_region 1 with fail
  rw [← hWd]
  clear hWd
  rw [← hgp] at hpc hpcU HAP HA6 ⊢
  obtain ⟨g6, hg6⟩ : ∃ g6, g6 = gp + 1 := ⟨_, rfl⟩
  rw [← hg6] at HA6 ⊢
  have HG6 := Hid.mk hg6
  clear hg6 hgp sW sV
  go_upto_region 2 with fail
  rw [← hUd]
  clear hUd hmkw hpc
  generalize hgW : W.heap.size = gW at *
  generalize hgf : V.heap.size = gf at *
  clear hgW hgf
  go_wp2_with fail
  clear hpcU
  go_loopg [20] cels.length (fun gk v20 wr => ∃ (k : Nat) (gv2 : Value) (G2 : List Gate) (pv2 : Value) (X2 : Nat → Prop) (vs : List Value) (ls : List (List Nat)), k + gk = cels.length ∧ v20 = .int .i64 k ∧ PK B (fun q => X q ∨ (w.heap.size ≤ q ∧ q < U.heap.size)) P gB cv gc gS cs U gv G n pv pl 1 ws gW k wr gv2 G2 pv2 X2 vs ls)
  case atStart => exact ⟨0, gv, G, pv, _, [], [], by omega, rfl, HPK0.out⟩
  case round =>
    obtain ⟨k, gv2, G2, pv2, X2, vs, ls, hk, rfl, hpk⟩ := hrel
    have HK := Hid.mk hk
    have HPZ := Hid.mk hpk
    clear hk hpk
    by_cases hlt : k < cels.length
    · have j1 : (k : Int) < cels.length := by omega
      have j2 : (0 : Int) ≤ k := by omega
      have HC2 := Hid.mk (HC.out.step ((KP.of HKU.out).trans (KP.fr HPZ.out.pt.fr (fun q a e => by
        rcases e with e | e | e | e
        · exact (HPB.out.bs.hp q a).2 e
        · rw [e] at a; exact (HPB.out.bs.hx gS HPB.out.xs).2.2 a
        · exact (HPB.out.bs.hx q (HPB.out.px q e).1).2.2 a
        · have := (HPB.out.bs.hp q a).1; have := HB4.out; omega))))
      rw [HCV.out] at HC2
      obtain ⟨cb, co, hca, hcel⟩ := HC2.out.cell hlt
      subst hca
      have c0 := hcel 0 (by decide)
      have c1 := hcel 1 (by decide)
      have c2 := hcel 2 (by decide)
      have c3 := hcel 3 (by decide)
      have c4 := hcel 4 (by decide)
      simp only [celC, List.getElem?_cons_zero, List.getElem?_cons_succ, Nat.add_zero] at c0 c1 c2 c3 c4
      have hwk : ws.getD k 0 = (if cels[k].inp = true then 0 else cels[k].w) := by rw [HWS.out, List.getD_eq_getElem?_getD, List.getElem?_map, List.getElem?_eq_getElem hlt]; rfl
      have hwok := HWO.out _ (List.getElem_mem hlt)
      have HOK : Hid (offW ws k ≤ 64 * k ∧ k < ws.length ∧ k < 256) := Hid.mk ⟨HOFF.out k (by rw [HLEN.out]; omega), by rw [HLEN.out]; exact hlt, by omega⟩
      have HOS : Hid (offW ws (k + 1) = offW ws k + (ws.getD k 0).toNat) := Hid.mk (offW_succ ws k HOK.out.2.1)
      generalize cels[k] = x at *
      obtain ⟨D, hD⟩ : ∃ D : Nat, x.w = D := ⟨x.w.toNat, by omega⟩
      have hD2 : 1 ≤ D ∧ D ≤ 64 := by omega
      have hD3 : (D : Int) ≤ 64 := by omega
      rw [hD] at c0 hwk
      clear hcel hwok hD
      have HWK := Hid.mk hwk
      clear hwk
      go_upto_region 5 with fail
      obtain ⟨Z, hZ⟩ : ∃ Z, Z = wr.alloc (.cells #[.int .i64 (D : Nat), .bool x.inp, .int .u64 (x.ini : Nat), .int .i64 x.lo, .int .i64 x.hi] 70) := ⟨_, rfl⟩
      rw [← hZ]
      have kZ : Keep wr Z := by rw [hZ]; exact (Keep.refl wr).alloc _
      have aZ : Arr Z wr.heap.size 70 [.int .i64 (D : Nat), .bool x.inp, .int .u64 (x.ini : Nat), .int .i64 x.lo, .int .i64 x.hi] := by rw [hZ]; exact Arr.new wr 70 _
      have z0 : Z.cell? ⟨wr.heap.size, 0, none⟩ = some (.int .i64 (D : Nat)) := aZ.cell 0
      have z1 : Z.cell? ⟨wr.heap.size, 1, none⟩ = some (.bool x.inp) := aZ.cell 1
      have HAZ := Hid.mk aZ
      have HKZ := Hid.mk kZ
      generalize wr.heap.size = gZ at *
      clear hZ kZ aZ c0 c1 c2 c3 c4
      rcases Bool.eq_false_or_eq_true x.inp with hin | hin
      · have HIN := Hid.mk hin
        rw [hin] at z1
        clear hin
        go_wp2_with fail
        go_roundg (gk - 1)
        case measure => have := HK.out; omega
        case rel =>
          have hDk : (ws.getD k 0).toNat = 0 := by rw [HWK.out, if_pos HIN.out]; rfl
          refine ⟨k + 1, gv2, G2, pv2, X2, vs ++ [.slice none 0 0], ls ++ [[]], by have := HK.out; omega, by go_num, ⟨?_, ?_, ?_, ?_, ?_⟩⟩
          · rw [HOS.out, hDk, pinK_succ, hDk]
            simpa [pinC] using HPZ.out.pb.keep HKZ.out
          · exact HPZ.out.pt.trans (PT.keep (Y := fun _ => False) HKZ.out) (fun q a => a.elim)
          · rw [HOS.out, hDk]; exact HPZ.out.ex
          · rw [← rep0 vs HOK.out.2.1]; exact HPZ.out.aw.keep HKZ.out
          · refine (HPZ.out.wd.pt (PT.keep (Y := fun _ => False) HKZ.out) HPZ.out.pb.xs (fun q a => (HPZ.out.pb.px q a).1) (fun q a => a.elim) (Ext.refl HPZ.out.ex.wf)).add (WO.nil _ _) (Wv.of (by rw [hDk]; rfl) (fun i hi => by simp at hi) (fun inp => rdB_lt _ _ _))
      · have HIN := Hid.mk hin
        rw [hin] at z1
        clear hin
        have hmk2 := run_make1 (P := Try.prog) Try.underlying96 inf46 rfl (D : Int) (D : Int) (by omega) (by omega) (by omega) (by omega)
        simp only [Int.toNat_natCast] at hmk2
        have hmkz := hmk2 Z
        obtain ⟨Y, hY⟩ : ∃ Y, Y = Z.alloc (.cells (rep D (.int .i64 0)) 46) := ⟨_, rfl⟩
        rw [← hY] at hmkz
        have kY : Keep Z Y := by rw [hY]; exact (Keep.refl Z).alloc _
        have aY : Arr Y Z.heap.size 46 (([] : List Nat).map bv ++ List.replicate (D - 0) (.int .i64 0)) := by rw [hY, rep_eq]; exact Arr.new Z 46 _
        have hYs := aY.lt
        obtain ⟨PY, TY⟩ := (HPZ.out.pb.keep HKZ.out).more (Y := fun _ => False) kY (Z := fun q => X2 q ∨ q = Z.heap.size) (fun q a => Or.inl a) (fun q a => a.imp id (fun e => ⟨by omega, by omega⟩))
        have HTY : Hid (PT (fun _ => False) gc gS wr gv2 pv2 X2 Y gv2 pv2 (fun q => X2 q ∨ q = Z.heap.size)) := Hid.mk ((PT.keep HKZ.out).trans TY (fun q a => Or.inl a))
        have HPW0 : Hid (PW B (fun q => X2 q ∨ q = Z.heap.size) P gB cv gc gS cs Y gv2 G2 (n + offW ws k) pv2 (pl ++ pinK 1 ws k) 1 k D Z.heap.size 0 Y gv2 G2 pv2 (fun q => X2 q ∨ q = Z.heap.size) []) := Hid.mk ⟨by simpa [pinC] using PY, PT.refl Y, Ext.refl PY.bs.wf, aY, rfl, fun i hi => by simp at hi⟩
        have HGW : Hid (¬ X2 Z.heap.size ∧ Z.heap.size ≠ gS ∧ wr.heap.size ≤ Z.heap.size ∧ ¬ fpC gc gv2 Z.heap.size) := Hid.mk ⟨fun a => by have := HPZ.out.pb.bs.hX _ a; have := HKZ.out.size; omega, fun e => by have := HPZ.out.pb.ar.lt; have := HKZ.out.size; omega, HKZ.out.size, fun a => by have := (HPZ.out.pb.bs.cc.flt a).2; have := HKZ.out.size; omega⟩
        have HFY : Hid (Arr Y gZ 70 [.int .i64 (D : Nat), .bool x.inp, .int .u64 (x.ini : Nat), .int .i64 x.lo, .int .i64 x.hi]) := Hid.mk (HAZ.out.keep kY)
        have HZL : Hid (gZ < Z.heap.size) := Hid.mk HAZ.out.lt
        generalize Z.heap.size = gw at *
        have HKY := Hid.mk kY
        clear hY kY aY hmk2 PY TY hYs
        go_wp2_with fail
        clear hmkz
        obtain ⟨ok, hok⟩ : ∃ ok, ok = gk := ⟨_, rfl⟩
        subst hok
        obtain ⟨wo, hwo⟩ : ∃ wo, wo = wr := ⟨_, rfl⟩
        subst hwo
        go_loopg [36] D (fun gk v36 wq => ∃ (b : Nat) (gv3 : Value) (G3 : List Gate) (pv3 : Value) (X3 : Nat → Prop) (lw : List Nat), b + gk = D ∧ v36 = .int .i64 b ∧ PW B (fun q => X2 q ∨ q = gw) P gB cv gc gS cs Y gv2 G2 (n + offW ws k) pv2 (pl ++ pinK 1 ws k) 1 k D gw b wq gv3 G3 pv3 X3 lw)
        case atStart => exact ⟨0, gv2, G2, pv2, _, [], by omega, rfl, HPW0.out⟩
        case round =>
          obtain ⟨b, gv3, G3, pv3, X3, lw, hb, rfl, hpw⟩ := hrel
          have HB := Hid.mk hb
          have HPW := Hid.mk hpw
          have HX3 : Hid (X3 gw ∧ pv3.ownBlock ≠ some gw) := Hid.mk ⟨hpw.pt.x1 gw (Or.inr rfl), fun a => by
            rcases hpw.pt.pw gw a with c | c
            · have := HPZ.out.pb.px gw c
              exact HGW.out.1 this.1
            · have := HPW0.out.aw.lt; omega⟩
          clear hb
          by_cases hblt : b < D
          · have l1 : (b : Int) < D := by omega
            have l2 : (0 : Int) ≤ b := by omega
            obtain ⟨s0, s12, f12⟩ := hpw.pb.cells H0.out H13.out
            have C62 := Hid.mk (hpw.pb.input (by have := hpw.ex.len; have := HPZ.out.ex.len; have := HOK.out; have := HLN.out; omega) (by have := HOK.out; have := HNN.out; omega))
            clear hpw
            go_wp2_with fail
            refine C62.out.mono ?_
            rintro e w4 ⟨gv4, rfl, pb4, pt4, ex4, bt4⟩
            have a4 := pt4.arr HPW.out.aw (fun a => (HPW.out.pb.bs.hx gw HX3.out.1).2.1 a) HGW.out.2.1 HX3.out.2 (fun a => a)
            obtain ⟨u1, c1⟩ : ∃ u, w4.cell? ⟨gw, b, none⟩ = some u := ⟨_, (a4.cell b).trans (List.getElem?_eq_getElem (by have := HPW.out.ll; simp; omega))⟩
            have fz := a4.frozen b
            have HP4 := Hid.mk pb4
            have HT4 := Hid.mk pt4
            have HE4 := Hid.mk ex4
            have HBT4 := Hid.mk bt4
            have HA4 := Hid.mk a4
            clear pb4 pt4 ex4 bt4 a4 s0 s12 f12 C62
            go_upto_region 11 with fail
            clear c1 fz
            obtain ⟨w5, hw5⟩ : ∃ w5, w5 = w4.setCell ⟨gw, b, none⟩ (.int .i64 ((G3.length : Nat) : Int)) := ⟨_, rfl⟩
            rw [← hw5]
            have HP5 : Hid (PB B X3 P gB cv gc gS cs w5 gv4 (G3 ++ [gIn (n + offW ws k + b)]) (n + offW ws k + b + 1) pv3 (pl ++ pinK 1 ws k ++ pinC 1 k b) ∧ PT (fun q => q = gw) gc gS w4 gv4 pv3 X3 w5 gv4 pv3 X3) := Hid.mk (by rw [hw5]; exact HP4.out.set HX3.out.1 HGW.out.2.1 HX3.out.2 b _)
            have HA5 : Hid (Arr w5 gw 46 ((lw ++ [G3.length]).map bv ++ List.replicate (D - (b + 1)) (.int .i64 0))) := Hid.mk (by rw [hw5, ← bset HPW.out.ll hblt]; exact HA4.out.set b _)
            obtain ⟨t0, t12, f12⟩ := HP5.out.1.cells H0.out H13.out
            have hsz5 := HP5.out.1.ar.lt
            have hbd : B ≤ w5.heap.size := Nat.le_trans HBB.out (Nat.le_trans HSZ.out (Nat.le_trans HPZ.out.pt.size (Nat.le_trans HKZ.out.size (Nat.le_trans HKY.out.size (Nat.le_trans HPW.out.pt.size (Nat.le_trans HT4.out.size HP5.out.2.size))))))
            have HLP : Hid ((pl ++ pinK 1 ws k ++ pinC 1 k b).length ≤ 200000) := Hid.mk (by rw [List.length_append, List.length_append, pinC_len, pinK_len _ _ _ (by omega)]; have := HOK.out; have := HPL.out; omega)
            clear hw5
            go_wp2_with (at_builtin; refine wpList_appS (by rfl) _ _ _ (by rfl) pinVC Try.underlying50 inf67 rfl (by omega) pinVC_len B (by rfl) (HP5.out.1.ow.alloc _) _ (1, (k : Int), b) (by rfl) (Arr.new w5 67 (pinVC (1, (k : Int), b))) (pinVC_one _) (by have := HLP.out; simp only [maxLen]; omega) (by have := HLP.out; omega) (by simp; omega) ?_; intro v' w6 hown' hgr hob; have HAPP := Hid.mk (PB.app (HP5.out.1.keep ((Keep.refl w5).alloc _)) hown' hgr hob); obtain ⟨c6, f6⟩ := (HP5.out.1.keep ((Keep.refl w5).alloc _)).app0 H13.out hgr; obtain ⟨va, vm, vc, hv'⟩ := OwnS.isl hown'; subst hv'; clear hown' hgr hob t0 t12 f12)
            clear c6 f6
            go_roundg (gk - 1)
            case measure => have := HB.out; omega
            case rel =>
              obtain ⟨pb7, pt7⟩ := HAPP.out
              refine ⟨b + 1, gv4, G3 ++ [gIn (n + offW ws k + b)], .slice va vm vc, (fun q => X3 q ∨ (Value.slice va vm vc).ownBlock = some q), lw ++ [G3.length], by have := HB.out; omega, by go_num, ⟨?_, ?_, ?_, ?_, ?_, ?_⟩⟩
              · rw [pinC_succ, ← List.append_assoc]; exact pb7
              · exact (((HPW.out.pt.trans HT4.out (fun q a => a.elim)).trans HP5.out.2 (fun q a => Or.inl a)).trans (PT.keep (Y := fun _ => False) ((Keep.refl w5).alloc _)) (fun q a => a.elim)).trans pt7 (fun q a => a.elim)
              · exact HPW.out.ex.trans HE4.out
              · exact pt7.arr (HA5.out.keep ((Keep.refl w5).alloc _)) (HP4.out.bs.hx gw HX3.out.1).2.1 HGW.out.2.1 HX3.out.2 (fun a => a)
              · simp [HPW.out.ll]
              · intro i hi
                have ll := HPW.out.ll
                simp only [List.length_append, List.length_singleton] at hi
                by_cases e : i < b
                · rw [List.getElem_append_left (by omega)]
                  exact (HPW.out.wb i _).ext HE4.out.pre
                · obtain rfl : i = b := by omega
                  rw [List.getElem_append_right (by omega)]
                  simp only [ll, Nat.sub_self, List.getElem_cons_zero]
                  exact HBT4.out
          · have l1 : ¬ (b : Int) < D := by omega
            obtain rfl : b = D := by have := HB.out; omega
            have hgW := HB4.out
            have oW := HPZ.out.pt.off (g := gW) (by omega) (HNEW.out gW (by omega)).1 (HNEW.out gW (by omega)).2.2
            have of := HPZ.out.pt.off (g := gf) (by omega) (HNEW.out gf (by omega)).1 (HNEW.out gf (by omega)).2.2
            have nW : gW < gw ∧ gf < gw ∧ U.heap.size ≤ gw := by have := HGW.out.2.2.1; have := HPZ.out.pt.size; omega
            have aF := hpw.pt.arr ((((HPZ.out.pt.arr HAF.out (HNEW.out gf (by omega)).1 (HNEW.out gf (by omega)).2.1 (HNEW.out gf (by omega)).2.2 (by show gf ≠ gW; omega)).keep HKZ.out)).keep HKY.out) of.1 (HNEW.out gf (by omega)).2.1 of.2 (by show gf ≠ gw; omega)
            have aW := hpw.pt.arr ((HPZ.out.aw.keep HKZ.out).keep HKY.out) oW.1 (HNEW.out gW (by omega)).2.1 oW.2 (by show gW ≠ gw; omega)
            have oW3 := hpw.pt.off (g := gW) (by have := HPZ.out.aw.lt; have := HKZ.out.size; have := HKY.out.size; omega) oW.1 oW.2
            have y0 : wr.cell? ⟨gf, 0, none⟩ = some (.slice (some ⟨gW, 0, none⟩) cels.length cels.length) := aF.cell 0
            obtain ⟨u1, c1⟩ : ∃ u, wr.cell? ⟨gW, k, none⟩ = some u := ⟨_, (aW.cell k).trans (List.getElem?_eq_getElem (by have := HPZ.out.wd.lv; have := HOK.out.2.1; simp; omega))⟩
            have fz := aW.frozen k
            have x4 : ∀ q, (X q ∨ (w.heap.size ≤ q ∧ q < U.heap.size)) → X3 q ∧ q ≠ gw := fun q a => ⟨hpw.pt.x1 q (Or.inl (HPZ.out.pt.x1 q a)), by
              have h1 : q < U.heap.size := by
                rcases a with a | a
                · exact Nat.lt_of_lt_of_le (HPB.out.bs.hX q a) HSZ.out
                · exact a.2
              omega⟩
            have HP9 : Hid (PB B (fun q => X3 q ∧ q ≠ gw) P gB cv gc gS cs wr gv3 G3 (n + offW ws k + b) pv3 (pl ++ pinK 1 ws k ++ pinC 1 k b)) := Hid.mk (hpw.pb.less (fun q a => a.1) (x4 gS (Or.inl HPB.out.xs)) (fun q hq => ⟨(hpw.pb.px q hq).1, fun e => HX3.out.2 (by rw [← e]; exact hq)⟩))
            have HPS := Hid.mk (HP9.out.set (x4 gW (Or.inr ⟨by omega, by omega⟩)) (HNEW.out gW (by omega)).2.1 oW3.2 k (.slice (some ⟨gw, 0, none⟩) b b))
            have HPT : Hid (PT (fun q => q = gW) gc gS U gv pv (fun q => X q ∨ (w.heap.size ≤ q ∧ q < U.heap.size)) wr gv3 pv3 (fun q => X3 q ∧ q ≠ gw)) := Hid.mk (((HPZ.out.pt.trans HTY.out (fun q a => a.elim)).trans hpw.pt (fun q a => Or.inr (by have : q = gw := a; omega))).lessX (fun q a => a.1) x4)
            have HWDk : Hid (WDS (fun q => X3 q ∧ q ≠ gw) gc gv3 wr G3 ws (inF ws n) vs ls k) := Hid.mk (((HPZ.out.wd.pt HTY.out HPZ.out.pb.xs (fun q a => (HPZ.out.pb.px q a).1) (fun q a => a.elim) (Ext.refl HPZ.out.ex.wf)).pt hpw.pt (Or.inl HPZ.out.pb.xs) (fun q a => Or.inl (HPZ.out.pb.px q a).1) (fun q a => Or.inr a) hpw.ex).less (fun q a => a.1))
            have HAW := Hid.mk aW
            have HAG : Hid (Arr wr gw 46 (lw.map bv)) := Hid.mk (by have h9 := hpw.aw; rw [Nat.sub_self] at h9; simpa using h9)
            have HNG : Hid (gW ≠ gw ∧ ¬ fpC gc gv3 gw) := Hid.mk ⟨by omega, (hpw.pb.bs.hx gw HX3.out.1).2.1⟩
            clear oW of aF aW x4 hpw hgW nW oW3
            go_wp2_with fail
            clear y0 c1 fz
            go_roundg (ok - 1)
            case measure => have := HK.out; omega
            case rel =>
              obtain ⟨pb7, pt7⟩ := HPS.out
              have hDk : (ws.getD k 0).toNat = b := by rw [HWK.out]; rw [if_neg (by simpa using HIN.out)]; omega
              refine ⟨k + 1, gv3, G3, pv3, (fun q => X3 q ∧ q ≠ gw), vs ++ [.slice (some ⟨gw, 0, none⟩) b b], ls ++ [lw], by have := HK.out; omega, by go_num, ⟨?_, ?_, ?_, ?_, ?_⟩⟩
              · rw [HOS.out, hDk, pinK_succ, hDk, ← List.append_assoc, ← Nat.add_assoc]; exact pb7
              · exact HPT.out.trans pt7 (fun q a => Or.inl a)
              · rw [HOS.out, hDk]; exact HPZ.out.ex.trans HPW.out.ex
              · rw [← vset HPZ.out.wd.lv HOK.out.2.1]; exact HAW.out.set k _
              · refine (HWDk.out.pt pt7 HP9.out.xs (fun q a => (HP9.out.px q a).1) (fun q a => by rw [show q = gW from a]; exact HPT.out.x1 gW (Or.inr (by have := HB4.out; omega))) (Ext.refl HPW.out.ex.wf)).add ⟨?_, fun q hq => ?_⟩ ?_
                · have h9 := pt7.arr HAG.out HNG.out.2 HGW.out.2.1 HX3.out.2 (fun e => HNG.out.1 e.symm)
                  have h8 := wd_arr h9 (by rw [HPW.out.ll]; omega)
                  rw [HPW.out.ll] at h8
                  exact h8
                · have e : gw = q := by simpa [Value.ownBlock] using hq
                  subst e
                  exact ⟨fun a => by
                    rcases a with a | a
                    · exact HNG.out.2 a
                    · exact a.2 rfl, (pt7.arr HAG.out HNG.out.2 HGW.out.2.1 HX3.out.2 (fun e => HNG.out.1 e.symm)).lt⟩
                · refine Wv.of (by rw [HPW.out.ll, hDk]) (fun i hi => ?_) (fun inp => rdB_lt _ _ _)
                  refine (HPW.out.wb i hi).congr (fun inp => ?_)
                  show inp _ = (rdB inp (n + offW ws k) (ws.getD k 0).toNat).testBit i
                  rw [rdB_bit _ _ _ _ (by rw [hDk, ← HPW.out.ll]; exact hi)]

    · have j1 : ¬ (k : Int) < cels.length := by omega
      obtain rfl : k = cels.length := by have := HK.out; omega
      have hB4 := HB4.out
      have hG6 := HG6.out
      have HKL : Hid (offW ws cels.length ≤ 64 * 256) := Hid.mk (by have := HOFF.out cels.length (by rw [HLEN.out]; exact Nat.le_refl _); omega)
      have nf := HNEW.out gf (by omega)
      have n6 := HNEW.out g6 (by omega)
      have aF := HPZ.out.pt.arr HAF.out nf.1 nf.2.1 nf.2.2 (by show gf ≠ gW; omega)
      have a6 := HPZ.out.pt.arr HA6.out n6.1 n6.2.1 n6.2.2 (by show g6 ≠ gW; omega)
      have of := HPZ.out.pt.off (g := gf) (by omega) nf.1 nf.2.2
      have o6 := HPZ.out.pt.off (g := g6) (by omega) n6.1 n6.2.2
      have oW := HPZ.out.pt.off (g := gW) (by omega) (HNEW.out gW (by omega)).1 (HNEW.out gW (by omega)).2.2
      obtain ⟨s0, s12, f12⟩ := HPZ.out.pb.cells H0.out H13.out
      have C62 := Hid.mk (HPZ.out.pb.input (by have := HPZ.out.ex.len; have := HKL.out; have := HLN.out; omega) (by have := HKL.out; have := HNN.out; omega))
      have HBK : Hid (gf ≠ gS ∧ g6 ≠ gS ∧ gW ≠ gS ∧ gf ≠ g6 ∧ gf ≠ gW ∧ g6 ≠ gW ∧ X2 gf ∧ X2 g6 ∧ X2 gW ∧ w.heap.size ≤ gW) := Hid.mk ⟨nf.2.1, n6.2.1, (HNEW.out gW (by omega)).2.1, by omega, by omega, by omega, HPZ.out.pt.x1 gf (Or.inr (by omega)), HPZ.out.pt.x1 g6 (Or.inr (by omega)), HPZ.out.pt.x1 gW (Or.inr (by omega)), by omega⟩
      have HOF := Hid.mk (And.intro of (And.intro o6 oW))
      have HAF2 := Hid.mk aF
      have HA62 := Hid.mk a6
      clear hB4 hG6 nf n6 aF a6 of o6 oW
      go_wp2_with fail
      refine C62.out.mono ?_
      rintro e w4 ⟨gv4, rfl, pb4, pt4, ex4, bt4⟩
      have aF4 := pt4.arr HAF2.out HOF.out.1.1 HBK.out.1 HOF.out.1.2 (fun a => a)
      have HA64 := Hid.mk (pt4.arr HA62.out HOF.out.2.1.1 HBK.out.2.1 HOF.out.2.1.2 (fun a => a))
      have HAW4 := Hid.mk (pt4.arr HPZ.out.aw HOF.out.2.2.1 HBK.out.2.2.1 HOF.out.2.2.2 (fun a => a))
      have c1 : w4.cell? ⟨gf, 1, none⟩ = some (.int .i64 0) := aF4.cell 1
      have fz := aF4.frozen 1
      have HP4 := Hid.mk pb4
      have HT4 := Hid.mk pt4
      have HE4 := Hid.mk ex4
      have HBT4 := Hid.mk bt4
      have HAF4 := Hid.mk aF4
      clear pb4 pt4 ex4 bt4 aF4 s0 s12 f12 C62
      go_upto_region 16 with fail
      clear c1 fz
      obtain ⟨w5, hw5⟩ : ∃ w5, w5 = w4.setCell ⟨gf, 1, none⟩ (.int .i64 ((G2.length : Nat) : Int)) := ⟨_, rfl⟩
      rw [← hw5]
      have HP5 : Hid (PB B X2 P gB cv gc gS cs w5 gv4 (G2 ++ [gIn (n + offW ws cels.length)]) (n + offW ws cels.length + 1) pv2 (pl ++ pinK 1 ws cels.length) ∧ PT (fun q => q = gf) gc gS w4 gv4 pv2 X2 w5 gv4 pv2 X2) := Hid.mk (by rw [hw5]; exact HP4.out.set HBK.out.2.2.2.2.2.2.1 HBK.out.1 HOF.out.1.2 1 _)
      have HAF5 : Hid (Arr w5 gf 48 [.slice (some ⟨gW, 0, none⟩) cels.length cels.length, .int .i64 ((G2.length : Nat) : Int)]) := Hid.mk (by rw [hw5]; exact HAF4.out.set 1 _)
      have HOF4 : Hid ((¬ fpC gc gv4 gf) ∧ (¬ fpC gc gv4 g6) ∧ ¬ fpC gc gv4 gW) := Hid.mk ⟨(HP4.out.bs.hx gf HBK.out.2.2.2.2.2.2.1).2.1, (HP4.out.bs.hx g6 HBK.out.2.2.2.2.2.2.2.1).2.1, (HP4.out.bs.hx gW HBK.out.2.2.2.2.2.2.2.2.1).2.1⟩
      have HA65 := Hid.mk (HP5.out.2.arr HA64.out HOF4.out.2.1 HBK.out.2.1 HOF.out.2.1.2 (fun e => HBK.out.2.2.2.1 e.symm))
      have HAW5 := Hid.mk (HP5.out.2.arr HAW4.out HOF4.out.2.2 HBK.out.2.2.1 HOF.out.2.2.2 (fun e => HBK.out.2.2.2.2.1 e.symm))
      obtain ⟨t0, t12, f12⟩ := HP5.out.1.cells H0.out H13.out
      have hsz5 := HP5.out.1.ar.lt
      have hbd : B ≤ w5.heap.size := Nat.le_trans HBB.out (Nat.le_trans HSZ.out (Nat.le_trans HPZ.out.pt.size (Nat.le_trans HT4.out.size HP5.out.2.size)))
      have HLP : Hid ((pl ++ pinK 1 ws cels.length).length ≤ 200000) := Hid.mk (by rw [List.length_append, pinK_len _ _ _ (by rw [HLEN.out]; exact Nat.le_refl _)]; have := HKL.out; have := HPL.out; omega)
      clear hw5
      go_upto_region 17 with (at_builtin; refine wpList_appS (by rfl) _ _ _ (by rfl) pinVC Try.underlying50 inf67 rfl (by omega) pinVC_len B (by rfl) (HP5.out.1.ow.alloc _) _ (1, -1, 0) (by rfl) (Arr.new w5 67 (pinVC (1, -1, 0))) (pinVC_one _) (by have := HLP.out; simp only [maxLen]; omega) (by have := HLP.out; omega) (by simp; omega) ?_; intro v' w6 hown' hgr hob; have HAPP := Hid.mk (PB.app (HP5.out.1.keep ((Keep.refl w5).alloc _)) hown' hgr hob); obtain ⟨c6, f6⟩ := (HP5.out.1.keep ((Keep.refl w5).alloc _)).app0 H13.out hgr; obtain ⟨va, vm, vc, hv'⟩ := OwnS.isl hown'; subst hv'; clear hown' hgr hob t0 t12 f12)
      clear c6 f6
      generalize w6.setCell ⟨gS, 12, none⟩ (.slice va vm vc) = w7 at *
      obtain ⟨pb7, pt7⟩ := HAPP.out
      have aF7 := pt7.arr (HAF5.out.keep ((Keep.refl w5).alloc _)) HOF4.out.1 HBK.out.1 HOF.out.1.2 (fun a => a)
      have a67 := pt7.arr (HA65.out.keep ((Keep.refl w5).alloc _)) HOF4.out.2.1 HBK.out.2.1 HOF.out.2.1.2 (fun a => a)
      have aW7 := pt7.arr (HAW5.out.keep ((Keep.refl w5).alloc _)) HOF4.out.2.2 HBK.out.2.2.1 HOF.out.2.2.2 (fun a => a)
      have r0 : w7.cell? ⟨gf, 0, none⟩ = some (.slice (some ⟨gW, 0, none⟩) cels.length cels.length) := aF7.cell 0
      have r1 : w7.cell? ⟨gf, 1, none⟩ = some (.int .i64 ((G2.length : Nat) : Int)) := aF7.cell 1
      have r2 : w7.cell? ⟨g6, 0, none⟩ = some (.slice none 0 0) := a67.cell 0
      have r3 : w7.cell? ⟨g6, 1, none⟩ = some (.int .i64 0) := a67.cell 1
      have r4 := a67.frozen 0
      have r5 := a67.frozen 1
      have HA67 := Hid.mk a67
      have HAW7 := Hid.mk aW7
      have HP7 := Hid.mk pb7
      have HT7 := Hid.mk pt7
      clear aF7 a67 aW7 pb7 pt7 HAPP
      go_wp2_with fail
      have HA9 := (HA67.out.set 0 (.slice (some ⟨gW, 0, none⟩) cels.length cels.length)).set 1 (.int .i64 ((G2.length : Nat) : Int))
      have q0 := HA9.cell 0
      have q1 := HA9.cell 1
      have o67 : (Value.slice va vm vc).ownBlock ≠ some g6 ∧ (Value.slice va vm vc).ownBlock ≠ some gW := ⟨fun a => by
        rcases HT7.out.pw g6 a with b | b
        · exact HOF.out.2.1.2 b
        · exact absurd (Nat.le_trans ((Keep.refl w5).alloc _).size b) (by have := HA65.out.lt; omega), fun a => by
        rcases HT7.out.pw gW a with b | b
        · exact HOF.out.2.2.2 b
        · exact absurd (Nat.le_trans ((Keep.refl w5).alloc _).size b) (by have := HAW5.out.lt; omega)⟩
      obtain ⟨pb8, pt8⟩ := HP7.out.set (Or.inl HBK.out.2.2.2.2.2.2.2.1) HBK.out.2.1 o67.1 0 (.slice (some ⟨gW, 0, none⟩) cels.length cels.length)
      obtain ⟨pb9, pt9⟩ := pb8.set (Or.inl HBK.out.2.2.2.2.2.2.2.1) HBK.out.2.1 o67.1 1 (.int .i64 ((G2.length : Nat) : Int))
      refine bodyPost_ret (v := .agg #[.slice (some ⟨gW, 0, none⟩) cels.length cels.length, .int .i64 ((G2.length : Nat) : Int)]) (by simp [results, Try.results26, go_sem, q0, q1]) rfl ?_
      have hlen := HLEN.out
      have hB4 := HB4.out
      have hG6 := HG6.out
      have KA := (Keep.refl w5).alloc (.cells #[.int .i64 1, .int .i64 (-1), .int .i64 0] 67)
      have TT := ((((((HTU.out.trans HPZ.out.pt (fun q a => Or.inr (by have : q = gW := a; omega))).trans HT4.out (fun q a => a.elim)).trans HP5.out.2 (fun q a => Or.inr (by have : q = gf := a; omega))).trans (PT.keep (Y := fun _ => False) KA) (fun q a => a.elim)).trans HT7.out (fun q a => a.elim)).trans pt8 (fun q a => Or.inr (by have : q = g6 := a; omega))).trans pt9 (fun q a => Or.inr (by have : q = g6 := a; omega))
      have hx2 := HPZ.out.pb.xs
      have hp2 : ∀ q, pv2.ownBlock = some q → X2 q := fun q a => (HPZ.out.pb.px q a).1
      have e0 := Ext.refl HE4.out.wf
      have W1 := ((((((HPZ.out.wd.pt HT4.out hx2 hp2 (fun q a => a.elim) HE4.out).pt HP5.out.2 hx2 hp2 (fun q a => by rw [show q = gf from a]; exact HBK.out.2.2.2.2.2.2.1) e0).pt (PT.keep (Y := fun _ => False) KA) hx2 hp2 (fun q a => a.elim) e0).pt HT7.out hx2 hp2 (fun q a => a.elim) e0).pt pt8 (Or.inl hx2) (fun q a => Or.inr a) (fun q a => by rw [show q = g6 from a]; exact Or.inl HBK.out.2.2.2.2.2.2.2.1) e0)).pt pt9 (Or.inl hx2) (fun q a => Or.inr a) (fun q a => by rw [show q = g6 from a]; exact Or.inl HBK.out.2.2.2.2.2.2.2.1) e0
      have A9 := pt9.arr (pt8.arr HAW7.out HOF4.out.2.2 HBK.out.2.2.1 o67.2 (fun e => HBK.out.2.2.2.2.2.1 e.symm)) HOF4.out.2.2 HBK.out.2.2.1 o67.2 (fun e => HBK.out.2.2.2.2.2.1 e.symm)
      rw [hlen, Nat.sub_self, List.replicate_zero, List.append_nil] at A9
      refine ⟨gv4, G2 ++ [gIn (n + offW ws cels.length)], .slice va vm vc, (fun q => X2 q ∨ (Value.slice va vm vc).ownBlock = some q), gW, vs, ls, G2.length, by rw [hlen], ?_, TT, ?_, Or.inl HBK.out.2.2.2.2.2.2.2.2.1, HBK.out.2.2.2.2.2.2.2.2.2, o67.2, A9, ?_, ?_⟩
      · have e := HCV.out; rw [pinL, hlen, ← List.append_assoc, ← e]; exact pb9
      · rw [hlen]; exact HPZ.out.ex.trans HE4.out
      · rw [hlen]; exact W1
      · rw [hlen]; exact HBT4.out
end Go.Proofs.Qxb6500772a
