/- blast: Build. -/
import Derived.Test.Qxb6500772aHg
import Derived.Test.Qxb6500772aHh
import Derived.Test.Qxb6500772aDm
import Derived.Deep.RegionHeld3
namespace Go.Proofs.Qxb6500772a
open Go Go.RowKit Go.Qm
set_option linter.unusedVariables false
set_option linter.unusedSimpArgs false
attribute [local go_sem ↓] Go.wp_at_zero Go.wp_at_succ
/-- What Build leaves. -/
def RBd (cels : List Cel) (body : SL) (f : EF) (t : EL) (w : World) (e : Ending) (w' : World) : Prop :=
  Keep w w' ∧ ((ckP cels body f t ≠ 0 ∧ e = .returned (.tuple #[.pointer none, .int .i64 ((ckP cels body f t : Nat) : Int)])) ∨ (ckP cels body f t = 0 ∧ ∃ gS gc gv G pv av afl gWc fbc gWn fbn gW3 fb3 b8 b9 b10 b11, e = .returned (.tuple #[.pointer (some ⟨gS, 0, none⟩), .int .i64 0]) ∧ SYSW w.heap.size cels body f t w' gS gc gv G pv av afl gWc fbc gWn fbn gW3 fb3 b8 b9 b10 b11))
theorem Keep.thenFr {w w1 w2 : World} {P : Nat → Prop} (k : Keep w w1) (f : Fr P w1 w2) (h : ∀ q, P q → w.heap.size ≤ q) : Keep w w2 :=
  ⟨f.os.trans k.os, f.tape.trans k.tape, f.output.trans k.output, Nat.le_trans k.size f.size, fun q hq => (f.block q (Nat.lt_of_lt_of_le hq k.size) (fun a => by have := h q a; omega)).trans (k.block q hq)⟩
set_option maxRecDepth 8000 in
set_option maxHeartbeats 8000000 in
theorem build_c {P : Nat → Prop} {cels : List Cel} {body : SL} {f : EF} {t : EL} (hcl : cels.length ≤ 1000000) (hcr : ∀ c ∈ cels, CelR c) (hN : body.size ≤ 1000000) {w : World} {cv bv v : Value} {brows rows : List (List Value)} (hc : CsW P w cv cels) (hb1 : Rows P w bv 8 brows) (hb2 : SLW P w body brows) (hf : EFr f) (hr : Rows P w v 7 rows) (he : ELW P w t rows) (hP : ∀ q, P q → q < w.heap.size) :
    Calls Try.prog 8 #[prA cv bv f v] w fun e w' => RBd cels body f t w e w' := by
  obtain ⟨ca, cc, hcv, cv1, cv2⟩ := hc.form
  obtain ⟨ba, bc, hbv, bv1, bv2⟩ := hb1.form
  obtain ⟨ka, kc, hkv, kv1, kv2⟩ := hr.form
  have hbl := hb2.len
  rw [hbl] at hbv bv1
  subst hcv hbv hkv
  unfold maxLen at cv2 bv2 kv2
  obtain ⟨W, hW⟩ : ∃ W, W = w.alloc (.cells #[.slice ca cels.length cc, .slice ba body.len bc, .int .i64 f.k, .int .i64 f.w, .int .i64 f.o, .int .u64 (f.v : Nat), .int .i64 f.c, .int .i64 f.l, .slice ka rows.length kc] 33) := ⟨_, rfl⟩
  have kW : Keep w W := by rw [hW]; exact (Keep.refl w).alloc _
  have aP : Arr W w.heap.size 33 [.slice ca cels.length cc, .slice ba body.len bc, .int .i64 f.k, .int .i64 f.w, .int .i64 f.o, .int .u64 (f.v : Nat), .int .i64 f.c, .int .i64 f.l, .slice ka rows.length kc] := by rw [hW]; exact Arr.new w 33 _
  have sW : W.heap.size = w.heap.size + 1 := by rw [hW]; simp
  have HCK := Hid.mk (check_c hcl hcr hN (hc.step (KP.of kW)) (hb1.step (KP.of kW)) (hb2.step (KP.of kW)) hf (hr.step (KP.of kW)) (he.step (KP.of kW)))
  simp only [prA] at HCK
  have p0 := aP.cell 0
  have p1 := aP.cell 1
  have p2 := aP.cell 2
  have p3 := aP.cell 3
  have p4 := aP.cell 4
  have p5 := aP.cell 5
  have p6 := aP.cell 6
  have p7 := aP.cell 7
  have p8 := aP.cell 8
  simp only [List.getElem?_cons_zero, List.getElem?_cons_succ] at p0 p1 p2 p3 p4 p5 p6 p7 p8
  have HKW := Hid.mk kW
  have HAP := Hid.mk aP
  have HC := Hid.mk hc
  have HB1 := Hid.mk hb1
  have HB2 := Hid.mk hb2
  have HF := Hid.mk hf
  have HR := Hid.mk hr
  have HE := Hid.mk he
  have HP := Hid.mk hP
  have HBRL := Hid.mk hbl
  have HCR := Hid.mk hcr
  simp only [prA]
  generalize hgp : w.heap.size = gp at *
  have HGP := Hid.mk hgp
  have HSW := Hid.mk sW
  clear hgp sW kW aP hc hb1 hb2 hf hr he hP hbl hcr
  go_enter Try.func8, Try.ntmps8
  go_upto_region 1 with fail
  rw [HGP.out]
  rw [← hW]
  clear hW
  go_wp2_with fail
  refine HCK.out.mono ?_
  rintro e w2 ⟨rfl, k2⟩
  have HK2 := Hid.mk k2
  clear k2 HCK p0 p1 p2 p3 p4 p5 p6 p7 p8
  by_cases hck : ckP cels body f t = 0
  · have HOK := Hid.mk (ckP_ok hck)
    have HCK := Hid.mk hck
    have n2 : (((ckP cels body f t : Nat) : Int) != 0) = false := by rw [hck]; rfl
    clear hck
    have HNW := Hid.mk (new_c w2 gp (by have := HK2.out.size; have := HSW.out; omega))
    go_wp2_with fail
    refine HNW.out.mono ?_
    rintro e w3 ⟨gc, gv, rfl, cc3, k3, hgc, hfp⟩
    have HCC := Hid.mk cc3
    have HK3 := Hid.mk k3
    have HGC := Hid.mk hgc
    have HFP := Hid.mk hfp
    have a3 := (HAP.out.keep HK2.out).keep k3
    have HAP3 := Hid.mk a3
    clear cc3 k3 hgc hfp HNW a3 n2
    go_upto_region 5 with fail
    obtain ⟨w4, hw4⟩ : ∃ w4, w4 = w3.alloc (.cells #[.pointer (some ⟨gc, 0, none⟩), .slice none 0 0, .int .i64 0, .slice none 0 0, .int .i64 0, .slice none 0 0, .int .i64 0, .slice none 0 0, .int .i64 0, .int .i64 0, .int .i64 0, .int .i64 0, .slice none 0 0] 52) := ⟨_, rfl⟩
    rw [← hw4]
    have k4 : Keep w3 w4 := by rw [hw4]; exact (Keep.refl w3).alloc _
    have a4 : Arr w4 w3.heap.size 52 [.pointer (some ⟨gc, 0, none⟩), .slice none 0 0, .int .i64 0, .slice none 0 0, .int .i64 0, .slice none 0 0, .int .i64 0, .slice none 0 0, .int .i64 0, .int .i64 0, .int .i64 0, .int .i64 0, .slice none 0 0] := by rw [hw4]; exact Arr.new w3 52 _
    have sw4 : w4.heap.size = w3.heap.size + 1 := by rw [hw4]; simp
    have z0 : w4.cell? ⟨w3.heap.size, 0, none⟩ = some (.pointer (some ⟨gc, 0, none⟩)) := a4.cell 0
    have z1 : w4.cell? ⟨gp, 0, none⟩ = some (.slice ca cels.length cc) := (HAP3.out.keep k4).cell 0
    have HK4 := Hid.mk k4
    have HA4 := Hid.mk a4
    have HS4 := Hid.mk sw4
    generalize hgS : w3.heap.size = gS at *
    have HGS := Hid.mk hgS
    clear hw4 k4 a4 sw4 hgS
    go_region
    clear z0 z1
    obtain ⟨w5, hw5⟩ : ∃ w5, w5 = (w4.alloc (.cells #[.pointer (some ⟨gc, 0, none⟩), .slice ca cels.length cc] 87)).drew := ⟨_, rfl⟩
    rw [← hw5]
    have k5 : Keep w4 w5 := by rw [hw5]; exact ((Keep.refl w4).alloc _).drew
    have a5 : Arr w5 w4.heap.size 87 [.pointer (some ⟨gc, 0, none⟩), .slice ca cels.length cc] := by rw [hw5]; exact (Arr.new w4 87 _).drew
    have hlt5 := a5.lt
    have HKX : Hid (Keep w w5) := Hid.mk ((((HKW.out.trans HK2.out).trans HK3.out).trans HK4.out).trans k5)
    have hgc3 := HGC.out
    have hgs := HGS.out
    have hs4 := HS4.out
    have hsw := HSW.out
    have hk2 := HK2.out.size
    have hk3 := HK3.out.size
    have hgp := HGP.out
    have ce : cels.length ≤ 256 := HOK.out.cl
    have PB5 : PB gp (fun q => q = gS) (fun q => P q ∨ q = w4.heap.size) w4.heap.size (.slice ca cels.length cc) gc gS [.pointer (some ⟨gc, 0, none⟩), .slice none 0 0, .int .i64 0, .slice none 0 0, .int .i64 0, .slice none 0 0, .int .i64 0, .slice none 0 0, .int .i64 0, .int .i64 0, .int .i64 0, .int .i64 0, .slice none 0 0] w5 gv [g0] 0 (.slice none 0 0) [] := by
      have hfs : ∀ q, fpC gc gv q → q < gS := fun q a => by have := (HCC.out.flt a).2; omega
      refine ⟨⟨((HCC.out.top.keep HK4.out).keep k5).weak (fun q a => by show _ ∨ _; right; have : q = gS := a; omega), wfg0, fun q a => ?_, fun q a => ?_, a5, Or.inr rfl⟩, HA4.out.keep k5, OwnS.nil _ _ _ _ _, fun q hq => by simp [Value.ownBlock] at hq, rfl⟩
      · obtain rfl : q = gS := a
        exact ⟨by omega, fun b => by have := hfs _ b; omega, fun b => by
          rcases b with b | b
          · have := HP.out _ b; omega
          · omega⟩
      · rcases a with a | a
        · have h9 := HP.out _ a
          exact ⟨by omega, fun b => by have := HFP.out _ b; omega⟩
        · exact ⟨by omega, fun b => by have := hfs _ b; omega⟩
    have HWQ : Hid (∀ q, P q → P q ∨ q = w4.heap.size) := Hid.mk (fun q a => Or.inl a)
    have HCs : Hid (CsW (fun q => P q ∨ q = w4.heap.size) w5 (.slice ca cels.length cc) cels) := Hid.mk (Rows.weak (fun q a => Or.inl a) (HC.out.step (KP.of HKX.out)))
    have HPN := Hid.mk (pins0_c (f := f) (bv' := .slice ba body.len bc) (kb := .slice ka rows.length kc) rfl ce (fun c hc => ⟨(HOK.out.ce c hc).w1, (HOK.out.ce c hc).w2⟩) PB5 rfl rfl HCs.out ⟨_, _, _, rfl⟩ ⟨_, _, _, rfl⟩ (by omega) (by decide) (by decide) (by decide))
    simp only [prA] at HPN
    have HPB5 := Hid.mk PB5
    have HA5 := Hid.mk ((HAP3.out.keep HK4.out).keep k5)
    have q0 := HA5.out.cell 0
    have q1 := HA5.out.cell 1
    have q2 := HA5.out.cell 2
    have q3 := HA5.out.cell 3
    have q4 := HA5.out.cell 4
    have q5 := HA5.out.cell 5
    have q6 := HA5.out.cell 6
    have q7 := HA5.out.cell 7
    have q8 := HA5.out.cell 8
    simp only [List.getElem?_cons_zero, List.getElem?_cons_succ] at q0 q1 q2 q3 q4 q5 q6 q7 q8
    have HLT : Hid (gp < gS ∧ gp < w5.heap.size ∧ ¬ fpC gc gv gp ∧ gS < w5.heap.size ∧ gp < gc) := Hid.mk ⟨by omega, by omega, fun b => by have := HFP.out _ b; omega, by omega, by omega⟩
    generalize w4.heap.size = gB at *
    clear hw5 k5 a5 hlt5 PB5 hgc3 hgs hs4 hsw hk2 hk3 hgp
    go_wp2_with fail
    refine HPN.out.mono ?_
    rintro e w6 ⟨gv6, G6, pv6, X6, gWc, vsc, lsc, fbc, rfl, pb6, pt6, ex6, xW6, gW6, np6, aw6, wd6, bt6⟩
    clear q0 q1 q2 q3 q4 q5 q6 q7 q8 HPN
    have c1 := pb6.ar.cell 1
    have c2 := pb6.ar.cell 2
    have f1 := pb6.ar.frozen 1
    have f2 := pb6.ar.frozen 2
    simp only [List.set_cons_zero, List.set_cons_succ, List.getElem?_cons_zero, List.getElem?_cons_succ] at c1 c2
    have HP6 := Hid.mk pb6
    have HT6 := Hid.mk pt6
    have HE6 := Hid.mk ex6
    have HX6 : Hid (X6 gWc ∧ gWc ≠ gS ∧ ¬ fpC gc gv6 gWc) := Hid.mk ⟨xW6, fun e => by have := HLT.out; omega, (pb6.bs.hx _ xW6).2.1⟩
    have HFC6 : Hid (FO X6 gc gv6 gS pv6 w6 G6 (cwOf cels) (S0 cels) gWc fbc) := Hid.mk (FO.pins aw6 wd6 bt6 HX6.out.2.1 HX6.out.2.2 np6)
    clear pb6 pt6 ex6 xW6 gW6 np6 aw6 wd6 bt6
    go_upto_region 7 with fail
    clear c1 c2 f1 f2
    obtain ⟨w7, hw7⟩ : ∃ w7, w7 = (w6.setCell ⟨gS, 1, none⟩ (.slice (some ⟨gWc, 0, none⟩) cels.length cels.length)).setCell ⟨gS, 2, none⟩ (.int .i64 ((fbc : Nat) : Int)) := ⟨_, rfl⟩
    rw [← hw7]
    have P7 : PB gp X6 (fun q => P q ∨ q = gB) gB (.slice ca cels.length cc) gc gS [.pointer (some ⟨gc, 0, none⟩), .slice (some ⟨gWc, 0, none⟩) cels.length cels.length, .int .i64 ((fbc : Nat) : Int), .slice none 0 0, .int .i64 0, .slice none 0 0, .int .i64 0, .slice none 0 0, .int .i64 0, .int .i64 0, .int .i64 0, .int .i64 0, .slice none 0 0] w7 gv6 G6 (0 + offW (cels.map (·.w)) (cels.map (·.w)).length + 1) pv6 ([] ++ pinL 0 (cels.map (·.w))) ∧ PT (fun _ => False) gc gS w6 gv6 pv6 X6 w7 gv6 pv6 X6 := by
      rw [hw7]
      obtain ⟨p1, t1⟩ := HP6.out.setS (Y := fun _ => False) (i := 1) (by decide) (.slice (some ⟨gWc, 0, none⟩) cels.length cels.length)
      obtain ⟨p2, t2⟩ := p1.setS (Y := fun _ => False) (i := 2) (by decide) (.int .i64 ((fbc : Nat) : Int))
      exact ⟨p2, t1.trans t2 (fun q a => a.elim)⟩
    have HPB7 := Hid.mk P7.1
    have HPT7 := Hid.mk P7.2
    have HFC7 := Hid.mk (HFC6.out.pt P7.2 HP6.out.xs (fun q a => (HP6.out.px q a).1) (fun q a => a.elim) (fun a => a) (Ext.refl HE6.out.wf))
    have og := HT6.out.off HLT.out.2.1 HLT.out.2.2.1 (by simp [Value.ownBlock])
    have HA6 := Hid.mk (HT6.out.arr HA5.out HLT.out.2.2.1 (by have := HLT.out; omega) (by simp [Value.ownBlock]) (fun a => a))
    have HA7 := Hid.mk (P7.2.arr HA6.out og.1 (by have := HLT.out; omega) og.2 (fun a => a))
    have HOG := Hid.mk og
    have HC7 : Hid (CsW (fun q => P q ∨ q = gB) w7 (.slice ca cels.length cc) cels) := Hid.mk (HCs.out.step ((HT6.out.kp HPB5.out.bs rfl (fun q a => by simp [Value.ownBlock] at a) (fun q a => a.elim)).trans (P7.2.kp HP6.out.bs HP6.out.xs (fun q a => (HP6.out.px q a).1) (fun q a => a.elim))))
    have HOFc : Hid (offW (cels.map (·.w)) (cels.map (·.w)).length ≤ 16384) := Hid.mk (by
      have h9 := offW_le (ws := cels.map (·.w)) (fun a ha => (HOK.out.ws a ha).2) (cels.map (·.w)).length (Nat.le_refl _)
      rw [List.length_map] at h9 ⊢
      omega)
    have HOFn : Hid (offW (cnOf cels) (cnOf cels).length ≤ 16384) := Hid.mk (by
      have h9 := offW_le (ws := cnOf cels) (fun a ha => by
        obtain ⟨c, hc1, rfl⟩ := List.mem_map.1 ha
        have := (HOK.out.ce c hc1).w2
        split <;> omega) (cnOf cels).length (Nat.le_refl _)
      rw [show (cnOf cels).length = cels.length by simp [cnOf]] at h9 ⊢
      omega)
    have HSZ7 : Hid (gp ≤ w7.heap.size ∧ w5.heap.size ≤ w6.heap.size ∧ w6.heap.size ≤ w7.heap.size) := Hid.mk ⟨by have := HT6.out.size; have := P7.2.size; have := HLT.out; omega, HT6.out.size, P7.2.size⟩
    have HPN := Hid.mk (pins1_c (ws := cnOf cels) (f := f) (bv' := .slice ba body.len bc) (kb := .slice ka rows.length kc) rfl ce (fun c hc => ⟨(HOK.out.ce c hc).w1, (HOK.out.ce c hc).w2⟩) P7.1 rfl rfl HC7.out ⟨_, _, _, rfl⟩ ⟨_, _, _, rfl⟩ HSZ7.out.1 (by have h9 := HE6.out.len; have := HOFc.out; simp only [List.length_cons, List.length_nil] at h9; omega) (by have := HOFc.out; omega) (by rw [List.nil_append, pinL_len]; have := HOFc.out; omega))
    simp only [prA] at HPN
    have q0 := HA7.out.cell 0
    have q1 := HA7.out.cell 1
    have q2 := HA7.out.cell 2
    have q3 := HA7.out.cell 3
    have q4 := HA7.out.cell 4
    have q5 := HA7.out.cell 5
    have q6 := HA7.out.cell 6
    have q7 := HA7.out.cell 7
    have q8 := HA7.out.cell 8
    simp only [List.getElem?_cons_zero, List.getElem?_cons_succ] at q0 q1 q2 q3 q4 q5 q6 q7 q8
    clear hw7 P7 og
    go_wp2_with fail
    refine HPN.out.mono ?_
    rintro e w8 ⟨gv8, G8, pv8, X8, gWn, vsn, lsn, fbn, rfl, pb8, pt8, ex8, xW8, gW8, np8, aw8, wd8, bt8⟩
    rw [show (cnOf cels).length = cels.length by simp [cnOf]]
    clear q0 q1 q2 q3 q4 q5 q6 q7 q8 HPN
    have c3 := pb8.ar.cell 3
    have c4 := pb8.ar.cell 4
    have f3 := pb8.ar.frozen 3
    have f4 := pb8.ar.frozen 4
    simp only [List.set_cons_zero, List.set_cons_succ, List.getElem?_cons_zero, List.getElem?_cons_succ] at c3 c4
    have HP8 := Hid.mk pb8
    have HT8 := Hid.mk pt8
    have HE8 := Hid.mk ex8
    have HX8 : Hid (X8 gWn ∧ gWn ≠ gS ∧ ¬ fpC gc gv8 gWn) := Hid.mk ⟨xW8, fun e => by have := HLT.out; have := HSZ7.out; omega, (pb8.bs.hx _ xW8).2.1⟩
    have HFC8 := Hid.mk (HFC7.out.pt pt8 HPB7.out.xs (fun q a => (HPB7.out.px q a).1) (fun q a => a.elim) (fun a => a) ex8)
    have HFN8 : Hid (FO X8 gc gv8 gS pv8 w8 G8 (cnOf cels) (S1 cels) gWn fbn) := Hid.mk (by
      have h9 := FO.pins (gS := gS) aw8 wd8 bt8 HX8.out.2.1 HX8.out.2.2 np8
      rw [Nat.zero_add] at h9
      exact h9)
    have og := pt8.off HA7.out.lt HOG.out.1 HOG.out.2
    have HA8 := Hid.mk (pt8.arr HA7.out HOG.out.1 (by have := HLT.out; omega) HOG.out.2 (fun a => a))
    have HOG8 := Hid.mk og
    have HC8 : Hid (CsW (fun q => P q ∨ q = gB) w8 (.slice ca cels.length cc) cels) := Hid.mk (HC7.out.step (pt8.kp HPB7.out.bs HPB7.out.xs (fun q a => (HPB7.out.px q a).1) (fun q a => a.elim)))
    clear pb8 pt8 ex8 xW8 gW8 np8 aw8 wd8 bt8 og
    go_upto_region 8 with fail
    clear c3 c4 f3 f4
    obtain ⟨w9, hw9⟩ : ∃ w9, w9 = (w8.setCell ⟨gS, 3, none⟩ (.slice (some ⟨gWn, 0, none⟩) cels.length cels.length)).setCell ⟨gS, 4, none⟩ (.int .i64 ((fbn : Nat) : Int)) := ⟨_, rfl⟩
    rw [← hw9]
    have P9 : PB gp X8 (fun q => P q ∨ q = gB) gB (.slice ca cels.length cc) gc gS [.pointer (some ⟨gc, 0, none⟩), .slice (some ⟨gWc, 0, none⟩) cels.length cels.length, .int .i64 ((fbc : Nat) : Int), .slice (some ⟨gWn, 0, none⟩) cels.length cels.length, .int .i64 ((fbn : Nat) : Int), .slice none 0 0, .int .i64 0, .slice none 0 0, .int .i64 0, .int .i64 0, .int .i64 0, .int .i64 0, .slice none 0 0] w9 gv8 G8 (0 + offW (cels.map (·.w)) (cels.map (·.w)).length + 1 + offW (cnOf cels) (cnOf cels).length + 1) pv8 ([] ++ pinL 0 (cels.map (·.w)) ++ pinL 1 (cnOf cels)) ∧ PT (fun _ => False) gc gS w8 gv8 pv8 X8 w9 gv8 pv8 X8 := by
      rw [hw9]
      obtain ⟨p1, t1⟩ := HP8.out.setS (Y := fun _ => False) (i := 3) (by decide) (.slice (some ⟨gWn, 0, none⟩) cels.length cels.length)
      obtain ⟨p2, t2⟩ := p1.setS (Y := fun _ => False) (i := 4) (by decide) (.int .i64 ((fbn : Nat) : Int))
      exact ⟨p2, t1.trans t2 (fun q a => a.elim)⟩
    have HFC9 := Hid.mk (HFC8.out.pt P9.2 HP8.out.xs (fun q a => (HP8.out.px q a).1) (fun q a => a.elim) (fun a => a) (Ext.refl HE8.out.wf))
    have HFN9 := Hid.mk (HFN8.out.pt P9.2 HP8.out.xs (fun q a => (HP8.out.px q a).1) (fun q a => a.elim) (fun a => a) (Ext.refl HE8.out.wf))
    have HA9 := Hid.mk (P9.2.arr HA8.out HOG8.out.1 (by have := HLT.out; omega) HOG8.out.2 (fun a => a))
    have HC9 : Hid (CsW (fun q => P q ∨ q = gB) w9 (.slice ca cels.length cc) cels) := Hid.mk (HC8.out.step (P9.2.kp HP8.out.bs HP8.out.xs (fun q a => (HP8.out.px q a).1) (fun q a => a.elim)))
    have HPB9 := Hid.mk P9.1
    have HPT9 : Hid (PT (fun _ => False) gc gS w5 gv (.slice none 0 0) (fun q => q = gS) w9 gv8 pv8 X8) := Hid.mk (((HT6.out.trans HPT7.out (fun q a => a.elim)).trans HT8.out (fun q a => a.elim)).trans P9.2 (fun q a => a.elim))
    have HEX9 : Hid (Ext 32772 [g0] G8) := Hid.mk ((HE6.out.trans HE8.out).mono (by have := HOFc.out; have := HOFn.out; omega))
    clear hw9 P9
    generalize hnn : (0 + offW (cels.map (·.w)) (cels.map (·.w)).length + 1 + offW (cnOf cels) (cnOf cels).length + 1) = nn at *
    have HNN := Hid.mk hnn
    clear hnn
    obtain ⟨vsc, lsc, awc, wdc⟩ := HFC9.out.wd
    have HWC := Hid.mk (And.intro awc wdc)
    have a9 := HPB9.out.ar
    have HCL := Hid.mk (clone_c (oF := 1) (N := cels.length) (fb := fbc) a9 rfl rfl awc (by rw [wdc.lv]; simp [cwOf]) (fun v hv => by
      obtain ⟨i, hi, rfl⟩ := List.mem_iff_getElem.1 hv
      obtain ⟨a8, c8, h8, -, -⟩ := (wdc.wo i hi (by rw [wdc.ll, ← wdc.lv]; exact hi)).wd.form
      rw [h8]; rfl) (by omega))
    clear awc wdc a9
    go_wp2_with fail
    refine HCL.out.mono ?_
    rintro e w10 ⟨gW3, rfl, k10, a10, g10⟩
    have s10 := a10.lt
    have ar10 := HPB9.out.ar.keep k10
    have c5 := ar10.cell 5
    have c6 := ar10.cell 6
    have f5 := ar10.frozen 5
    have f6 := ar10.frozen 6
    simp only [List.set_cons_zero, List.set_cons_succ, List.getElem?_cons_zero, List.getElem?_cons_succ] at c5 c6
    have HK10 := Hid.mk k10
    have HA10 := Hid.mk a10
    have hgs9 := HPB9.out.ar.lt
    have HG3 : Hid (w9.heap.size ≤ gW3 ∧ gW3 < w10.heap.size ∧ gW3 ≠ gS) := Hid.mk ⟨g10, s10, by omega⟩
    clear k10 a10 g10 s10 hgs9 HCL
    go_upto_region 9 with fail
    clear c5 c6 f5 f6
    obtain ⟨w11, hw11⟩ : ∃ w11, w11 = (w10.setCell ⟨gS, 5, none⟩ (.slice (some ⟨gW3, 0, none⟩) cels.length cels.length)).setCell ⟨gS, 6, none⟩ (.int .i64 ((fbc : Nat) : Int)) := ⟨_, rfl⟩
    rw [← hw11]
    have B10 : BS gp (fun q => X8 q ∨ q = gW3) (fun q => P q ∨ q = gB) w10 gB (.slice ca cels.length cc) gc gv8 G8 nn := HPB9.out.bs.more HK10.out (fun q a => a.imp id (fun e => by have := HG3.out; omega))
    have HB11 : Hid (BS gp (fun q => X8 q ∨ q = gW3) (fun q => P q ∨ q = gB) w11 gB (.slice ca cels.length cc) gc gv8 G8 nn) := Hid.mk (by rw [hw11]; exact (B10.set (Or.inl HPB9.out.xs) _).set (Or.inl HPB9.out.xs) _)
    have T11 : ∀ av : Value, PT (fun _ => False) gc gS w9 gv8 av X8 w11 gv8 av (fun q => X8 q ∨ q = gW3) := fun av => by
      rw [hw11]
      exact ((PT.more HK10.out (fun q a => Or.inl a) (fun q a => a.imp id (fun e => by have := HG3.out; omega))).trans (PT.setS (Y := fun _ => False) 5 _) (fun q a => a.elim)).trans (PT.setS (Y := fun _ => False) 6 _) (fun q a => a.elim)
    have HAR11 : Hid (Arr w11 gS 52 (sysL gc cels.length gWc fbc gWn fbn gW3 fbc (.slice none 0 0) 0 0 0 0 pv8)) := Hid.mk (by rw [hw11]; exact (ar10.set 5 _).set 6 _)
    have HO11 : Hid (OwnS pinVC 3 67 gp w11 pv8 (pinAll (cwOf cels) (cnOf cels))) := Hid.mk (by
      have h9 := HPB9.out.ow
      rw [List.nil_append] at h9
      exact h9.fr (T11 (.slice none 0 0)).fr (fun q hq e => by
        rcases e with e | e | e | e
        · exact (HPB9.out.bs.hx q (HPB9.out.px q hq).1).2.1 e
        · exact (HPB9.out.px q hq).2 e
        · simp [Value.ownBlock] at e
        · exact e))
    have HFC11 : Hid (FO (fun q => X8 q ∨ q = gW3) gc gv8 gS (.slice none 0 0) w11 G8 (cwOf cels) (S0 cels) gWc fbc) := Hid.mk ((HFC9.out.withAv (by simp [Value.ownBlock])).pt (T11 _) HPB9.out.xs (fun q a => by simp [Value.ownBlock] at a) (fun q a => a.elim) (fun a => a) (Ext.refl HE8.out.wf))
    have HFN11 : Hid (FO (fun q => X8 q ∨ q = gW3) gc gv8 gS (.slice none 0 0) w11 G8 (cnOf cels) (S1 cels) gWn fbn) := Hid.mk ((HFN9.out.withAv (by simp [Value.ownBlock])).pt (T11 _) HPB9.out.xs (fun q a => by simp [Value.ownBlock] at a) (fun q a => a.elim) (fun a => a) (Ext.refl HE8.out.wf))
    have HFW11 : Hid (FO (fun q => X8 q ∨ q = gW3) gc gv8 gS (.slice none 0 0) w11 G8 (cwOf cels) (S0 cels) gW3 fbc) := Hid.mk ⟨⟨vsc, lsc, by rw [hw11]; exact ((Fr.setCell (P := fun q => q = gS) (p := ⟨gS, 6, none⟩) (Fr.setCell (P := fun q => q = gS) (p := ⟨gS, 5, none⟩) (Fr.refl _ w10) (Or.inl rfl) _) (Or.inl rfl) _)).arr HG3.out.2.2 HA10.out, HWC.out.2.pt (T11 (.slice none 0 0)) HPB9.out.xs (fun q a => by simp [Value.ownBlock] at a) (fun q a => a.elim) (Ext.refl HE8.out.wf)⟩, HFC11.out.bf, HFC11.out.sl, HG3.out.2.2, (HB11.out.hx gW3 (Or.inr rfl)).2.1, by simp [Value.ownBlock]⟩
    have HNE : Hid (gWc ≠ gW3 ∧ gWn ≠ gW3 ∧ gp ≠ gW3 ∧ X8 gWc ∧ X8 gWn) := Hid.mk ⟨by have := HWC.out.1.lt; have := HG3.out; omega, by obtain ⟨_, _, h8, -⟩ := HFN9.out.wd; have := h8.lt; have := HG3.out; omega, by have := HA9.out.lt; have := HG3.out; omega, HT8.out.x1 _ HX6.out.1, HX8.out.1⟩
    have HA11 : Hid (Arr w11 gp 33 _) := Hid.mk ((T11 (.slice none 0 0)).arr HA9.out HOG8.out.1 (by have := HLT.out; omega) (by simp [Value.ownBlock]) (fun a => a))
    have HC11 : Hid (CsW (fun q => P q ∨ q = gB) w11 (.slice ca cels.length cc) cels) := Hid.mk (HC9.out.step ((T11 (.slice none 0 0)).kp HPB9.out.bs HPB9.out.xs (fun q a => by simp [Value.ownBlock] at a) (fun q a => a.elim)))
    have HT11 := Hid.mk T11
    clear hw11 B10 T11 ar10
    have K11 : Keep w11 (w11.drew.alloc (.cells #[.slice (some ⟨gWc, 0, none⟩) cels.length cels.length, .int .i64 ((fbc : Nat) : Int)] 48)) := (Keep.refl w11).drew.alloc _
    have HK11 := Hid.mk K11
    refine u9_c gS gWc cels.length fbc (.slice none 0 0) rfl rfl (fun v W => OwnS (fmC cels.length) 2 48 gp W v ([] ++ [(gWc, fbc)]) ∧ (w11.drew.alloc (.cells #[.slice (some ⟨gWc, 0, none⟩) cels.length cels.length, .int .i64 ((fbc : Nat) : Int)] 48)).grownBy W (Value.slice none 0 0).ownBlock ∧ (v.ownBlock = (Value.slice none 0 0).ownBlock ∨ v.ownBlock = some (w11.drew.alloc (.cells #[.slice (some ⟨gWc, 0, none⟩) cels.length cels.length, .int .i64 ((fbc : Nat) : Int)] 48)).heap.size)) ((HAR11.out.drew).cell 7) ((HAR11.out.drew).cell 1) ((HAR11.out.drew).cell 2) ((HAR11.out.keep K11).cell 7) ?_ ?_
    · have hb9 : gp ≤ (w11.drew.alloc (.cells #[.slice (some ⟨gWc, 0, none⟩) cels.length cels.length, .int .i64 ((fbc : Nat) : Int)] 48)).heap.size := by have := K11.size; have := HA11.out.lt; omega
      obtain ⟨b9, m9, c9, w9', r1, r2, r3, r4⟩ := app_frame (N := cels.length) (OwnS.nil (fmC cels.length) 2 48 gp _) w11.drew.heap.size (gWc, fbc) (Arr.new w11.drew 48 (fmC cels.length (gWc, fbc))) hb9 (by simp)
      exact ⟨b9, m9, c9, w9', r1, r2, r3, r4⟩
    rintro ⟨gN0, gb0, va, vm, vc⟩ w12 ⟨ho12, hg12, hb12⟩
    obtain ⟨B12, T12⟩ := app_pt (gS := gS) (Y := fun _ => False) (HB11.out.keep HK11.out) ho12 hg12 hb12 (fun q a => by simp [Value.ownBlock] at a)
    have T13 := (PT.keep (Y := fun _ => False) (gc := gc) (gS := gS) (gv := gv8) (pv := .slice none 0 0) (X := fun q => X8 q ∨ q = gW3) HK11.out).trans T12 (fun q a => a.elim)
    have og12 := HPT9.out.off HLT.out.2.1 HLT.out.2.2.1 (by simp [Value.ownBlock])
    have ar12 : Arr w12 gS 52 (sysL gc cels.length gWc fbc gWn fbn gW3 fbc (.slice none 0 0) 0 0 0 0 pv8) := (show Fr (fun q => (Value.slice none 0 0).ownBlock = some q) _ w12 from Fr.grown hg12 (fun k e => e)).arr (by simp [Value.ownBlock]) (HAR11.out.keep HK11.out)
    refine ⟨⟨_, ar12.cell 7⟩, ar12.frozen 7, ?_⟩
    simp only [lay, u9L, List.foldl_cons, List.foldl_nil]
    simp only [put_lit, List.set_cons_succ, List.set_cons_zero]
    obtain ⟨w13, hw13⟩ : ∃ w13, w13 = w12.setCell ⟨gS, 7, none⟩ (.slice va vm vc) := ⟨_, rfl⟩
    rw [← hw13]
    obtain ⟨X13, hX13⟩ : ∃ X13 : Nat → Prop, X13 = (fun q => (X8 q ∨ q = gW3) ∨ (Value.slice va vm vc).ownBlock = some q) := ⟨_, rfl⟩
    rw [← hX13] at B12 T12 T13
    have x13s : X13 gS := by rw [hX13]; exact Or.inl (Or.inl HPB9.out.xs)
    have x13w : X13 gW3 := by rw [hX13]; exact Or.inl (Or.inr rfl)
    have B13 : BS gp X13 (fun q => P q ∨ q = gB) w13 gB (.slice ca cels.length cc) gc gv8 G8 nn := by rw [hw13]; exact B12.set x13s _
    have T3 : PT (fun _ => False) gc gS w11 gv8 (.slice none 0 0) (fun q => X8 q ∨ q = gW3) w13 gv8 (.slice va vm vc) X13 := by rw [hw13]; exact T13.trans (PT.setS (Y := fun _ => False) 7 _) (fun q a => a.elim)
    have hnv : ∀ q, (Value.slice va vm vc).ownBlock = some q → w11.heap.size ≤ q := fun q a => by
      rcases T3.pw q a with b | b
      · simp [Value.ownBlock] at b
      · exact b
    have e13 := Ext.refl HE8.out.wf
    have h0 : ∀ q, (Value.slice none 0 0).ownBlock = some q → (X8 q ∨ q = gW3) := fun q a => by simp [Value.ownBlock] at a
    have HFC13 := Hid.mk (HFC11.out.pt T3 (Or.inl HPB9.out.xs) h0 (fun q a => a.elim) (fun a => a) e13)
    have HFN13 := Hid.mk (HFN11.out.pt T3 (Or.inl HPB9.out.xs) h0 (fun q a => a.elim) (fun a => a) e13)
    have HFW13 := Hid.mk (HFW11.out.pt T3 (Or.inl HPB9.out.xs) h0 (fun q a => a.elim) (fun a => a) e13)
    have hlt11 := HAR11.out.lt
    have ow13 : OwnS (fmC cels.length) 2 48 gp w13 (.slice va vm vc) [(gWc, fbc)] := by
      rw [hw13]
      exact ho12.fr (Fr.setCell (P := fun q => q = gS) (p := ⟨gS, 7, none⟩) (Fr.refl _ w12) (Or.inl rfl) _) (fun q hq e => by have := hnv q hq; omega)
    have HBL0 : Hid (BL gp (fun q => P q ∨ q = gB) gB (.slice ca cels.length cc) gc gS cels body.toL nn pv8 gWc fbc gWn fbn gW3 w13 gv8 G8 (.slice va vm vc) X13 0 w13 gv8 G8 (.slice va vm vc) X13 [(gWc, fbc)] fbc) := Hid.mk ⟨B13, PT.refl w13, (Ext.refl HE8.out.wf).mono (Nat.zero_le _), by rw [hw13]; exact ar12.set 7 _, ow13, fun q hq => ⟨by rw [hX13]; exact Or.inr hq, by have := hnv q hq; omega⟩, x13s, x13w, HFW13.out, rfl, fun i hi => by
      obtain rfl : i = 0 := by simpa using hi
      exact ⟨HNE.out.1, HFC13.out⟩⟩
    have HO13 : Hid (OwnS pinVC 3 67 gp w13 pv8 (pinAll (cwOf cels) (cnOf cels))) := Hid.mk (HO11.out.fr T3.fr (fun q hq e => by
        rcases e with e | e | e | e
        · exact (HPB9.out.bs.hx q (HPB9.out.px q hq).1).2.1 e
        · exact (HPB9.out.px q hq).2 e
        · simp [Value.ownBlock] at e
        · exact e))
    have HPV : Hid (∀ q, pv8.ownBlock = some q → q ≠ gS ∧ q ≠ gW3 ∧ ¬ fpC gc gv8 q ∧ (Value.slice va vm vc).ownBlock ≠ some q) := Hid.mk (fun q hq => by
      have h9 := HPB9.out.bs.hx q (HPB9.out.px q hq).1
      have h8 := HG3.out
      have h7 := (HT11.out (.slice none 0 0)).size
      exact ⟨(HPB9.out.px q hq).2, by omega, h9.2.1, fun e => by have := hnv q e; omega⟩)
    have og11 : ¬ fpC gc gv8 gp := HOG8.out.1
    have HA13 := Hid.mk (T3.arr HA11.out og11 (by have := HLT.out; omega) (by simp [Value.ownBlock]) (fun a => a))
    have HOG13 : Hid (gp ≠ gS ∧ gp ≠ gW3 ∧ ¬ fpC gc gv8 gp ∧ (Value.slice va vm vc).ownBlock ≠ some gp) := Hid.mk ⟨by have := HLT.out; omega, HNE.out.2.2.1, og11, fun e => by have := hnv gp e; have := HA11.out.lt; omega⟩
    have KP13 : KP (fun q => P q ∨ q = gB) w5 w13 := (((HPT9.out.kp HPB5.out.bs rfl (fun q a => by simp [Value.ownBlock] at a) (fun q a => a.elim)).trans ((HT11.out (.slice none 0 0)).kp HPB9.out.bs HPB9.out.xs (fun q a => by simp [Value.ownBlock] at a) (fun q a => a.elim)))).trans (T3.kp HB11.out (Or.inl HPB9.out.xs) h0 (fun q a => a.elim))
    have HC13 := Hid.mk (HCs.out.step KP13)
    have HB13 : Hid (Rows (fun q => P q ∨ q = gB) w13 (.slice ba body.len bc) 8 brows) := Hid.mk ((Rows.weak (fun q a => Or.inl a) (HB1.out.step (KP.of HKX.out))).step KP13)
    have HS13 : Hid (SLW (fun q => P q ∨ q = gB) w13 body brows) := Hid.mk ((SLW.weak (fun q a => Or.inl a) (HB2.out.step (KP.of HKX.out))).step KP13)
    have HR13 : Hid (Rows (fun q => P q ∨ q = gB) w13 (.slice ka rows.length kc) 7 rows) := Hid.mk ((Rows.weak (fun q a => Or.inl a) (HR.out.step (KP.of HKX.out))).step KP13)
    have HE13 : Hid (ELW (fun q => P q ∨ q = gB) w13 t rows) := Hid.mk ((ELW.weak (fun q a => Or.inl a) (HE.out.step (KP.of HKX.out))).step KP13)
    have HKP13 : Hid (Keep w w13) := Hid.mk (by
      have h5 : ∀ q, fpC gc gv q → w.heap.size ≤ q := fun q a => by have := HFP.out q a; have := HK2.out.size; have := HSW.out; have := HGP.out; omega
      have h6 : w.heap.size ≤ gS := by have := HGP.out; have := HLT.out; omega
      have k9 := HPT9.out.keepF HKX.out h5 h6 (fun q a => by simp [Value.ownBlock] at a) (fun q a => a.elim)
      have hs : w.heap.size ≤ w5.heap.size := HKX.out.size
      have h7 : ∀ q, fpC gc gv8 q → w.heap.size ≤ q := fun q a => by
        rcases HPT9.out.nw q a with b | b
        · exact h5 q b
        · omega
      have k11 := (HT11.out (.slice none 0 0)).keepF k9 h7 h6 (fun q a => by simp [Value.ownBlock] at a) (fun q a => a.elim)
      exact T3.keepF k11 h7 h6 (fun q a => by simp [Value.ownBlock] at a) (fun q a => a.elim))
    have HAV : Hid ((∀ q, (Value.slice va vm vc).ownBlock = some q → w.heap.size ≤ q) ∧ (∀ q, fpC gc gv8 q → w.heap.size ≤ q) ∧ w.heap.size ≤ gS ∧ w.heap.size ≤ gW3) := Hid.mk (by
      have hs := HKX.out.size
      have h1 := HPT9.out.size
      have h2 := (HT11.out (.slice none 0 0)).size
      have h3 := HG3.out
      exact ⟨fun q a => by have := hnv q a; omega, fun q a => by
        rcases HPT9.out.nw q a with b | b
        · have := HFP.out q b; have := HK2.out.size; have := HSW.out; have := HGP.out; omega
        · omega, by have := HGP.out; have := HLT.out; omega, by omega⟩)
    have HXW : Hid (X13 gWc ∧ X13 gWn) := Hid.mk (by rw [hX13]; exact ⟨Or.inl (Or.inl HNE.out.2.2.2.1), Or.inl (Or.inl HNE.out.2.2.2.2)⟩)
    have p1 : w13.cell? ⟨gp, 1, none⟩ = some (.slice ba body.len bc) := HA13.out.cell 1
    clear hw13 hX13 B12 T12 T13 x13s x13w B13 T3 hnv e13 h0 hlt11 ow13 og11 KP13 ar12 ho12 hg12 hb12 og12 K11
    go_wp2_with fail
    clear p1
    have i9 : (body.len : Int) ≤ 9223372036854775807 := by omega
    go_loopg [61] body.len (fun gk v61 wr => ∃ (k : Nat) (gv2 : Value) (G2 : List Gate) (av2 : Value) (X2 : Nat → Prop) (afl : List (Nat × Nat)) (fb3 : Nat), k + gk = body.len ∧ v61 = .int .i64 k ∧ BL gp (fun q => P q ∨ q = gB) gB (.slice ca cels.length cc) gc gS cels body.toL nn pv8 gWc fbc gWn fbn gW3 w13 gv8 G8 (.slice va vm vc) X13 k wr gv2 G2 av2 X2 afl fb3)
    case atStart => exact ⟨0, gv8, G8, _, X13, _, fbc, by omega, rfl, HBL0.out⟩
    case round =>
      obtain ⟨k, gv2, G2, av2, X2, afl, fb3, hk, rfl, hbl⟩ := hrel
      have HK := Hid.mk hk
      have HBL := Hid.mk hbl
      clear hk hbl
      by_cases hlt : k < body.len
      · have j1 : (k : Int) < body.len := by omega
        have j2 : (0 : Int) ≤ k := by omega
        have hkl : k < body.toL.length := hlt
        have hbr : k < brows.length := by rw [HBRL.out]; exact hlt
        have KPr := HBL.out.pt.kp HBL0.out.bs HBL0.out.xs (fun q a => (HBL0.out.px q a).1) (fun q a => by rw [show q = gW3 from a]; exact HBL0.out.xw)
        obtain ⟨bb, bo, hba, -, -, -⟩ := (HB13.out.step KPr).cell hbr
        subst hba
        obtain ⟨k1, hk1⟩ : ∃ k1 : Nat, k1 = k + 1 := ⟨_, rfl⟩
        have wk1 : IntKind.i64.wrap ((k : Int) + 1) = (k1 : Int) := by rw [IntKind.wrap_i64]; omega
        have m1 : (k : Int) ≤ k1 := by omega
        have m2 : (k1 : Int) ≤ bc := by omega
        have m3 : (0 : Int) ≤ k1 := by omega
        have m5 : (k1 : Int) ≤ body.len := by omega
        have m6 : ¬ (bc = k) := by omega
        have Rk := Rows.one' (HB13.out.step KPr) hbr
        rw [show Value.slice (some ⟨bb, bo + k * 8, none⟩) 1 (bc - k) = .slice (some ⟨bb, bo + k * 8, none⟩) (k1 - k) (bc - k) by rw [show k1 - k = 1 by omega]] at Rk
        have Sk := (HS13.out.step KPr).one hkl hbr
        have Ck := HC13.out.step KPr
        obtain ⟨vs3, ls3, frm3⟩ := HBL.out.fw.frm (oF := 5) HBL.out.ar (by simp [sysL, cwOf]) rfl HBL.out.xs HBL.out.xw
        have HNS : Hid (nSs (body.toL.take (k + 1)) = nSs (body.toL.take k) + nY body.toL[k] ∧ nSs (body.toL.take (k + 1)) ≤ nSs body.toL ∧ nSs body.toL ≤ 4096) := Hid.mk ⟨nSs_take hkl, nSs_le _ _, by rw [← nS_sum]; have := HOK.out.st; omega⟩
        have kd : Keep wr wr.drew := (Keep.refl wr).drew
        have H28 := Hid.mk (stmts_b ce HOK.out.ws (oneS body.toL[k]) gp X2 wr.drew gB (.slice ca cels.length cc) gc gv2 G2 nn gS 5 gW3 52 _ _ vs3 ls3 fb3 (.slice (some ⟨bb, bo + k * 8, none⟩) (k1 - k) (bc - k)) [brows[k]] (HBL.out.bs.keep kd) (Ck.step (KP.of kd)) (frm3.keep kd) (Rk.step (KP.of kd)) (Sk.step (KP.of kd)) (wtS_one HOK.out.wb hkl) (by
          have h1 := HBL.out.ex.len
          have h2 := HEX9.out.len
          have h3 := HNS.out
          rw [nS_one]
          simp only [List.length_cons, List.length_nil] at h2
          omega))
        have HNO : Hid (nS (oneS body.toL[k]) = nY body.toL[k]) := Hid.mk (nS_one _)
        have HXO : Hid (∀ inp, exL (cels.map (·.w)) (oneS body.toL[k]) (exF cels (body.toL.take k) (S0 cels inp)) = exF cels (body.toL.take (k + 1)) (S0 cels inp)) := Hid.mk (fun inp => by
          unfold exF
          rw [List.take_succ_eq_append_getElem hkl, List.foldl_append]
          rfl)
        generalize oneS body.toL[k] = xk at *
        generalize nY body.toL[k] = nk at *
        have aPr := HBL.out.pt.arr HA13.out HOG13.out.2.2.1 HOG13.out.1 HOG13.out.2.2.2 HOG13.out.2.1
        have HAPr := Hid.mk aPr
        have hOGr := HBL.out.pt.off HA13.out.lt HOG13.out.2.2.1 HOG13.out.2.2.2
        have HOGr := Hid.mk hOGr
        have sd : wr.drew.cell? ⟨gp, 1, none⟩ = some (.slice (some ⟨bb, bo, none⟩) body.len bc) := aPr.cell 1
        clear KPr Rk Sk Ck frm3 kd aPr hOGr hkl hbr hk1
        go_wp2_with fail
        go_region_held3 (fun w' => w'.cell? ⟨gp, 1, none⟩ = some (.slice (some ⟨bb, bo, none⟩) body.len bc)) (with_reducible first | exact sd | exact sd4)
          (first
            | (go_at_call 28; refine H28.out.mono ?_; rintro e w4 ⟨gv4, G4, vs4, ls4, fb4, rfl, sx4, frm4⟩; have HX4 := Hid.mk sx4; have HF4 := Hid.mk frm4; have sd4 : w4.cell? ⟨gp, 1, none⟩ = some (.slice (some ⟨bb, bo, none⟩) body.len bc) := (sx4.arr HAPr.out.drew HOGr.out.1 (fun e => by rcases e with e | e; exact HOG13.out.1 e; exact HOG13.out.2.1 e)).cell 1; clear sx4 frm4))
        rename_i hHd
        clear hHd sd sd4 wk1 m1 m2 m3 m5 m6
        go_upto_region 14 with fail
        have T4 : PT (fun q => q = gW3) gc gS wr gv2 av2 X2 w4 gv4 av2 X2 := (PT.keep (Keep.refl wr).drew).trans (PT.sx HX4.out) (fun q a => Or.inl a)
        have hpx2 : ∀ q, av2.ownBlock = some q → X2 q := fun q a => (HBL.out.px q a).1
        have hY2 : ∀ q, q = gW3 → X2 q := fun q a => by rw [a]; exact HBL.out.xw
        have hna3 := HBL.out.fw.na
        have ar4 : Arr w4 gS 52 (sysL gc cels.length gWc fbc gWn fbn gW3 fb4 av2 0 0 0 0 pv8) := HF4.out.af
        have ow4 : OwnS (fmC cels.length) 2 48 gp w4 av2 afl := (HBL.out.ow.keep (Keep.refl wr).drew).fr HX4.out.sy.fr (fun q hq e => by
          rcases e with e | e | e
          · exact (HBL.out.bs.hx q (hpx2 q hq)).2.1 e
          · exact (HBL.out.px q hq).2 e
          · exact hna3 (by rw [show gW3 = q from e.symm]; exact hq))
        have FW4 : FO X2 gc gv4 gS av2 w4 G4 (cwOf cels) (fun inp => exF cels (body.toL.take (k + 1)) (S0 cels inp)) gW3 fb4 := (HF4.out.fo HX4.out.bs hna3).congr HXO.out
        have E4 := HX4.out.ex
        have HAF4 : Hid (∀ i (h : i < afl.length), afl[i].1 ≠ gW3 ∧ FO X2 gc gv4 gS av2 w4 G4 (cwOf cels) (fun inp => exF cels (body.toL.take i) (S0 cels inp)) afl[i].1 afl[i].2) := Hid.mk (fun i hi => ⟨(HBL.out.af i hi).1, (HBL.out.af i hi).2.pt T4 HBL.out.xs hpx2 hY2 (HBL.out.af i hi).1 E4⟩)
        have CLN := Hid.mk (clone_c (oF := 5) (N := cels.length) (fb := fb4) ar4.drew rfl rfl HF4.out.aw.drew (by rw [HF4.out.lv]; simp) (fun v hv => by
          obtain ⟨i, hi, rfl⟩ := List.mem_iff_getElem.1 hv
          obtain ⟨a8, c8, h8, -, -⟩ := (HF4.out.wo i hi (by rw [HF4.out.ll, ← HF4.out.lv]; exact hi)).wd.form
          rw [h8]; rfl) (by omega))
        have hal := HBL.out.al
        have hls : body.toL.length ≤ body.size := SL.len_size body
        have hz4 : gp ≤ w4.heap.size := by have := T4.size; have := HAPr.out.lt; omega
        have HAR4 := Hid.mk ar4
        have HOW4 := Hid.mk ow4
        have HFW4 := Hid.mk FW4
        have HT4 := Hid.mk T4
        clear ar4 ow4 FW4 T4 E4
        refine u14_c gS cels.length fb4 av2 rfl rfl (fun g W => Keep w4.drew W ∧ Arr W g 96 vs4 ∧ w4.heap.size ≤ g) (fun g v W => ∃ W1, (Keep w4.drew W1 ∧ Arr W1 g 96 vs4 ∧ w4.heap.size ≤ g) ∧ OwnS (fmC cels.length) 2 48 gp W v (afl ++ [(g, fb4)]) ∧ (W1.alloc (.cells #[.slice (some ⟨g, 0, none⟩) cels.length cels.length, .int .i64 ((fb4 : Nat) : Int)] 48)).grownBy W av2.ownBlock ∧ (v.ownBlock = av2.ownBlock ∨ v.ownBlock = some (W1.alloc (.cells #[.slice (some ⟨g, 0, none⟩) cels.length cels.length, .int .i64 ((fb4 : Nat) : Int)] 48)).heap.size)) (HAR4.out.drew.cell 7) ?_ ?_ ?_ ?_
        · rintro g W ⟨k9, -, -⟩
          exact ⟨(HAR4.out.drew.keep k9).cell 7, ((HAR4.out.drew.keep k9).keep ((Keep.refl W).alloc _)).cell 7⟩
        · refine CLN.out.mono ?_
          rintro e w9' ⟨g, rfl, k9, a9, g9⟩
          exact ⟨g, rfl, k9, a9, g9⟩
        · rintro g W ⟨k9, a9, g9⟩
          have K := (Keep.refl w4).drew.trans k9
          obtain ⟨b9, m9, c9, w9', r1, r2, r3, r4⟩ := app_frame (N := cels.length) ((HOW4.out.keep K).alloc (.cells #[.slice (some ⟨g, 0, none⟩) cels.length cels.length, .int .i64 ((fb4 : Nat) : Int)] 48)) W.heap.size (g, fb4) (Arr.new W 48 (fmC cels.length (g, fb4))) (by have h1 := K.size; have h2 := ((Keep.refl W).alloc (.cells #[.slice (some ⟨g, 0, none⟩) cels.length cels.length, .int .i64 ((fb4 : Nat) : Int)] 48)).size; omega) (by
            have h1 : k < body.toL.length := hlt
            omega)
          exact ⟨b9, m9, c9, w9', r1, W, ⟨k9, a9, g9⟩, r2, r3, r4⟩
        rintro ⟨gN, gb0, va2, vm2, vc2⟩ w5' ⟨W1, ⟨k9, a9, g9⟩, ho, hg, hb⟩
        simp only at k9 a9 g9 ho hg hb
        have KA : Keep w4 (W1.alloc (.cells #[.slice (some ⟨gN, 0, none⟩) cels.length cels.length, .int .i64 ((fb4 : Nat) : Int)] 48)) := ((Keep.refl w4).drew.trans k9).alloc _
        obtain ⟨B5, T5⟩ := app_pt (gS := gS) (Y := fun _ => False) (HX4.out.bs.keep KA) ho hg hb hpx2
        have ar5 : Arr w5' gS 52 (sysL gc cels.length gWc fbc gWn fbn gW3 fb4 av2 0 0 0 0 pv8) := (show Fr (fun q => av2.ownBlock = some q) _ w5' from Fr.grown hg (fun k e => e)).arr (fun e => (HBL.out.px gS e).2 rfl) (HAR4.out.keep KA)
        refine ⟨⟨_, ar5.cell 7⟩, ar5.frozen 7, ?_⟩
        simp only [lay, u14L, List.foldl_cons, List.foldl_nil]
        simp only [put_lit, List.set_cons_succ, List.set_cons_zero]
        obtain ⟨w6', hw6⟩ : ∃ w6', w6' = w5'.setCell ⟨gS, 7, none⟩ (.slice va2 vm2 vc2) := ⟨_, rfl⟩
        rw [← hw6]
        obtain ⟨X5, hX5⟩ : ∃ X5 : Nat → Prop, X5 = (fun q => X2 q ∨ (Value.slice va2 vm2 vc2).ownBlock = some q) := ⟨_, rfl⟩
        rw [← hX5] at B5 T5
        have x5s : X5 gS := by rw [hX5]; exact Or.inl HBL.out.xs
        have T7 : PT (fun _ => False) gc gS w4 gv4 av2 X2 w6' gv4 (.slice va2 vm2 vc2) X5 := by rw [hw6]; exact ((PT.keep (Y := fun _ => False) KA).trans T5 (fun q a => a.elim)).trans (PT.setS (Y := fun _ => False) 7 _) (fun q a => a.elim)
        have e5 := Ext.refl HX4.out.ex.wf
        have a6 : Arr w6' gN 96 vs4 := by
          have n1 : ¬ fpC gc gv4 gN := fun a => by have := (HX4.out.bs.cc.flt a).2; omega
          have n2 : gN ≠ gS := fun e => by have := HAR4.out.lt; omega
          have n3 : av2.ownBlock ≠ some gN := fun e => by have := (HOW4.out.lt gN e).2; omega
          rw [hw6]
          exact (PT.setS (Y := fun _ => False) (gc := gc) (gv := gv4) (av := .slice none 0 0) (X := X5) 7 (.slice va2 vm2 vc2)).arr (T5.arr (a9.keep ((Keep.refl W1).alloc _)) n1 n2 n3 (fun a => a)) n1 n2 (by simp [Value.ownBlock]) (fun a => a)
        have HBN : Hid (BL gp (fun q => P q ∨ q = gB) gB (.slice ca cels.length cc) gc gS cels body.toL nn pv8 gWc fbc gWn fbn gW3 w13 gv8 G8 (.slice va vm vc) X13 (k + 1) w6' gv4 G4 (.slice va2 vm2 vc2) X5 (afl ++ [(gN, fb4)]) fb4) := Hid.mk (by
          have hne : ∀ q, (Value.slice va2 vm2 vc2).ownBlock = some q → q ≠ gS := fun q hq => by
            rcases T7.pw q hq with b | b
            · exact (HBL.out.px q b).2
            · have := HAR4.out.lt; omega
          refine ⟨by rw [hw6]; exact B5.set x5s _, (HBL.out.pt.trans HT4.out (fun q a => Or.inl a)).trans T7 (fun q a => a.elim), (HBL.out.ex.trans HX4.out.ex).mono (by have h1 := HNS.out.1; have h2 := HNO.out; omega), by rw [hw6]; exact ar5.set 7 _, ?_, fun q hq => ⟨by rw [hX5]; exact Or.inr hq, hne q hq⟩, x5s, by rw [hX5]; exact Or.inl HBL.out.xw, HFW4.out.pt T7 HBL.out.xs hpx2 (fun q a => a.elim) (fun a => a) e5, by simp [hal], fun i hi => ?_⟩
          · rw [hw6]
            exact ho.fr (Fr.setCell (P := fun q => q = gS) (p := ⟨gS, 7, none⟩) (Fr.refl _ w5') (Or.inl rfl) _) (fun q hq e => hne q hq e)
          · by_cases hi2 : i < afl.length
            · rw [List.getElem_append_left hi2]
              exact ⟨(HAF4.out i hi2).1, (HAF4.out i hi2).2.pt T7 HBL.out.xs hpx2 (fun q a => a.elim) (fun a => a) e5⟩
            · have hi3 : i = k + 1 := by simp at hi; omega
              subst hi3
              rw [List.getElem_append_right (by omega)]
              simp only [hal, Nat.sub_self, List.getElem_cons_zero]
              have hw3 := HF4.out.aw.lt
              refine ⟨by omega, ⟨⟨vs4, ls4, a6, (WDS.pt ⟨HF4.out.lv.trans (by simp [cwOf]), HF4.out.ll.trans (by simp [cwOf]), HF4.out.wo, fun i hi => (HF4.out.wv i hi).congr (fun inp => by rw [HXO.out])⟩ T7 HBL.out.xs hpx2 (fun q a => a.elim) e5)⟩, HFW4.out.bf, HFW4.out.sl, fun e => by have := HAR4.out.lt; omega, fun a => by have := (HX4.out.bs.cc.flt a).2; omega, fun a => ?_⟩⟩
              rcases hb with e | e
              · rw [e] at a; have := (HOW4.out.lt gN a).2; omega
              · rw [e] at a; have h1 := Option.some.inj a; have h2 := a9.lt; have h3 := ((Keep.refl W1).alloc (.cells #[.slice (some ⟨gN, 0, none⟩) cels.length cels.length, .int .i64 ((fb4 : Nat) : Int)] 48)).size; omega)
        clear hw6 hX5 x5s T7 e5 a6 B5 T5 ar5 ho hg hb k9 a9 g9 KA
        go_wp2_with fail
        go_roundg (gk - 1)
        case measure => have := HK.out; omega
        case rel => exact ⟨k + 1, gv4, G4, _, X5, _, fb4, by have := HK.out; omega, by go_num, HBN.out⟩
      · have j1 : ¬ (k : Int) < body.len := by omega
        obtain rfl : k = body.len := by have := HK.out; omega
        have hY13 : ∀ q, q = gW3 → X13 q := fun q a => by rw [a]; exact HBL0.out.xw
        have hp13 : ∀ q, (Value.slice va vm vc).ownBlock = some q → X13 q := fun q a => (HBL0.out.px q a).1
        have HXr : Hid (X2 gS ∧ X2 gWc ∧ X2 gWn ∧ X2 gW3 ∧ ∀ q, (Value.slice none 0 0).ownBlock = some q → X2 q) := Hid.mk ⟨HBL.out.xs, HBL.out.pt.x1 _ HXW.out.1, HBL.out.pt.x1 _ HXW.out.2, HBL.out.xw, fun q a => by simp [Value.ownBlock] at a⟩
        have HFCr := Hid.mk (HFC13.out.pt HBL.out.pt HBL0.out.xs hp13 hY13 HNE.out.1 HBL.out.ex |>.withAv (av' := .slice none 0 0) (by simp [Value.ownBlock]))
        have HFNr := Hid.mk (HFN13.out.pt HBL.out.pt HBL0.out.xs hp13 hY13 HNE.out.2.1 HBL.out.ex |>.withAv (av' := .slice none 0 0) (by simp [Value.ownBlock]))
        have HFWr : Hid (FO X2 gc gv2 gS (.slice none 0 0) wr G2 (cwOf cels) (fun inp => exL (cwOf cels) body (S0 cels inp)) gW3 fb3) := Hid.mk ((HBL.out.fw.withAv (av' := .slice none 0 0) (by simp [Value.ownBlock])).congr (fun inp => by
          unfold exF
          rw [show body.toL.take body.len = body.toL from List.take_length]
          exact (exL_fold _ _ _).symm))
        have KPr := HBL.out.pt.kp HBL0.out.bs HBL0.out.xs hp13 hY13
        have HCr := Hid.mk (HC13.out.step KPr)
        have HRr := Hid.mk (HR13.out.step KPr)
        have HEr := Hid.mk (HE13.out.step KPr)
        have HAPr := Hid.mk (HBL.out.pt.arr HA13.out HOG13.out.2.2.1 HOG13.out.1 HOG13.out.2.2.2 HOG13.out.2.1)
        have HOGr := Hid.mk (HBL.out.pt.off HA13.out.lt HOG13.out.2.2.1 HOG13.out.2.2.2)
        have HOr : Hid (OwnS pinVC 3 67 gp wr pv8 (pinAll (cwOf cels) (cnOf cels)) ∧ ∀ q, pv8.ownBlock = some q → q ≠ gS ∧ ¬ fpC gc gv2 q ∧ av2.ownBlock ≠ some q) := Hid.mk ⟨HO13.out.fr HBL.out.pt.fr (fun q hq e => by
            have h9 := HPV.out q hq
            rcases e with e | e | e | e
            · exact h9.2.2.1 e
            · exact h9.1 e
            · exact h9.2.2.2 e
            · exact h9.2.1 e), fun q hq => by
            have h9 := HPV.out q hq
            have h8 := HBL.out.pt.off (g := q) (HO13.out.lt q hq).2 h9.2.2.1 h9.2.2.2
            exact ⟨h9.1, h8.1, h8.2⟩⟩
        have HGL : Hid (G2.length ≤ 32773 + 131072 * nS body) := Hid.mk (by
          have h1 := HBL.out.ex.len
          have h2 := HEX9.out.len
          have h3 := nSs_le body.toL body.len
          have h4 := nS_sum body
          simp only [List.length_cons, List.length_nil] at h2
          omega)
        have HST := Hid.mk HOK.out.st
        clear KPr hY13 hp13
        have Z0 : BZ gp X2 (fun q => P q ∨ q = gB) gB (.slice ca cels.length cc) gc gS nn wr gv2 G2 (.slice none 0 0) (0) wr gv2 G2 (sysL gc cels.length gWc fbc gWn fbn gW3 fb3 av2 0 0 0 0 pv8) := ⟨HBL.out.bs, PT.refl wr, Ext.refl HBL.out.ex.wf, HBL.out.ar⟩
        have HZ0 := Hid.mk Z0
        obtain ⟨vc0, lc0, frc0⟩ := HFCr.out.frm (oF := 1) Z0.ar (by simp [sysL, cwOf]) rfl HXr.out.1 HXr.out.2.1
        have C29 := Hid.mk (initial_c rfl ce HOK.out.ws (fun c hc => (HOK.out.ce c hc).ini) Z0.bs HCr.out frc0 (by have := HGL.out; have := HST.out; omega))
        clear Z0 frc0
        go_wp2_with fail
        refine C29.out.mono ?_
        rintro e w16 ⟨gv16, G16, b8, rfl, b9, s9, x9, bt9⟩
        have HZ16a := Hid.mk (HZ0.out.call HXr.out.1 ⟨b9, s9, x9⟩)
        have HBT8 := Hid.mk bt9
        have c8 := HZ16a.out.ar.cell 8
        have f8 := HZ16a.out.ar.frozen 8
        simp only [sysL, List.getElem?_cons_zero, List.getElem?_cons_succ] at c8
        clear b9 s9 x9 bt9 C29
        go_upto_region 17 with fail
        clear c8 f8
        have HZ16 : Hid (BZ gp X2 (fun q => P q ∨ q = gB) gB (.slice ca cels.length cc) gc gS nn wr gv2 G2 (.slice none 0 0) (0 + (131 * cels.length + 1)) (w16.setCell ⟨gS, 8, none⟩ (.int .i64 ((b8 : Nat) : Int))) gv16 G16 (sysL gc cels.length gWc fbc gWn fbn gW3 fb3 av2 b8 0 0 0 pv8)) := Hid.mk (HZ16a.out.set HXr.out.1 8 _)
        generalize w16.setCell ⟨gS, 8, none⟩ (.int .i64 ((b8 : Nat) : Int)) = w17 at *
        obtain ⟨vc1, lc1, frc1⟩ := (HZ16.out.fo HXr.out.1 HXr.out.2.2.2.2 HFCr.out).frm (oF := 1) HZ16.out.ar (by simp [sysL, cwOf]) rfl HXr.out.1 HXr.out.2.1
        have C30 := Hid.mk (legal_c rfl ce HOK.out.ws (fun c hc => ⟨(HOK.out.ce c hc).lo, (HOK.out.ce c hc).hi, (HCR.out c hc).lo, (HCR.out c hc).hi⟩) HZ16.out.bs (HCr.out.step (HZ16.out.kp HBL.out.bs HXr.out.1 HXr.out.2.2.2.2)) frc1 (by have h1 := HZ16.out.ex.len; have := HGL.out; have := HST.out; omega))
        clear frc1
        go_wp2_with fail
        refine C30.out.mono ?_
        rintro e w18 ⟨gv18, G18, b9, rfl, b9', s9, x9, bt9⟩
        have HZ18a := Hid.mk (HZ16.out.call HXr.out.1 ⟨b9', s9, x9⟩)
        have HBT9 := Hid.mk bt9
        have HBT8b := Hid.mk (HBT8.out.ext x9.pre)
        have c8 := HZ18a.out.ar.cell 9
        have f8 := HZ18a.out.ar.frozen 9
        simp only [sysL, List.getElem?_cons_zero, List.getElem?_cons_succ] at c8
        clear b9' s9 x9 bt9 C30
        go_upto_region 18 with fail
        clear c8 f8
        have HZ18 : Hid (BZ gp X2 (fun q => P q ∨ q = gB) gB (.slice ca cels.length cc) gc gS nn wr gv2 G2 (.slice none 0 0) (0 + (131 * cels.length + 1) + (262 * cels.length + 1)) (w18.setCell ⟨gS, 9, none⟩ (.int .i64 ((b9 : Nat) : Int))) gv18 G18 (sysL gc cels.length gWc fbc gWn fbn gW3 fb3 av2 b8 b9 0 0 pv8)) := Hid.mk (HZ18a.out.set HXr.out.1 9 _)
        generalize w18.setCell ⟨gS, 9, none⟩ (.int .i64 ((b9 : Nat) : Int)) = w19 at *
        have HZd := Hid.mk (HZ18.out.keep (Keep.refl w19).drew)
        obtain ⟨vc2, lc2, frc2⟩ := (HZd.out.fo HXr.out.1 HXr.out.2.2.2.2 HFWr.out).frm (oF := 5) HZd.out.ar (by simp [sysL, cwOf]) rfl HXr.out.1 HXr.out.2.2.2.1
        obtain ⟨vc3, lc3, frc3⟩ := (HZd.out.fo HXr.out.1 HXr.out.2.2.2.2 HFNr.out).frm (oF := 3) HZd.out.ar (by simp [sysL, cnOf]) rfl HXr.out.1 HXr.out.2.2.1
        have H32 := Hid.mk (equal_c rfl rfl ce HOK.out.ws HZd.out.bs (HCr.out.step (HZd.out.kp HBL.out.bs HXr.out.1 HXr.out.2.2.2.2)) frc2 frc3 (by have h1 := HZd.out.ex.len; have := HGL.out; have := HST.out; omega))
        have H31 : Hid (∀ w' gv' G' b F K, ST gp X2 (fun q => P q ∨ q = gB) w19.drew gB (.slice ca cels.length cc) gc gv18 G18 nn K w' gv' G' → K ≤ 20000 → Bt G' b F → Calls Try.prog 31 #[.pointer (some ⟨gc, 0, none⟩), .int .i64 (b9 : Nat), .int .i64 (b : Nat)] w' fun e w'' => RB gp X2 (fun q => P q ∨ q = gB) gB (.slice ca cels.length cc) gc gv' w' G' nn 1 (fun i => allC cels (legB (S0 cels i)) cels.length && F i) e w'') := Hid.mk (fun w' gv' G' b F K s hK bt => and_k s.bs (s.bt HBT9.out) bt (by have h1 := s.len; have h2 := HZd.out.ex.len; have := HGL.out; have := HST.out; omega))
        have sd : w19.drew.cell? ⟨gB, 0, none⟩ = some (.pointer (some ⟨gc, 0, none⟩)) ∧ w19.drew.cell? ⟨gS, 9, none⟩ = some (.int .i64 ((b9 : Nat) : Int)) := ⟨HZd.out.bs.cells.1, HZd.out.ar.cell 9⟩
        clear frc2 frc3
        go_region_held3 (fun w' => w'.cell? ⟨gB, 0, none⟩ = some (.pointer (some ⟨gc, 0, none⟩)) ∧ w'.cell? ⟨gS, 9, none⟩ = some (.int .i64 ((b9 : Nat) : Int))) (with_reducible first | exact sd | exact sd4 | exact sd5 | exact sd6)
          (first
            | (go_at_call 32; refine H32.out.mono ?_; rintro e w20 ⟨gv20, G20, b20, rfl, b8', s8, x8, bt8⟩; have HS20 : Hid (ST gp X2 (fun q => P q ∨ q = gB) w19.drew gB (.slice ca cels.length cc) gc gv18 G18 nn (66 * cels.length + 65) w20 gv20 G20) := Hid.mk ⟨b8', s8, x8⟩; have HZ20 := Hid.mk (HZd.out.call HXr.out.1 HS20.out); have sd4 : w20.cell? ⟨gB, 0, none⟩ = some (.pointer (some ⟨gc, 0, none⟩)) ∧ w20.cell? ⟨gS, 9, none⟩ = some (.int .i64 ((b9 : Nat) : Int)) := ⟨HZ20.out.bs.cells.1, HZ20.out.ar.cell 9⟩; have C31 := Hid.mk (H31.out _ _ _ _ _ _ HS20.out (by omega) bt8); clear b8' s8 x8 bt8)
            | (go_at_call 31; refine C31.out.mono ?_; rintro e w21 ⟨gv21, G21, b10, rfl, b8', s8, x8, bt8⟩; have HZ21 := Hid.mk (HZ20.out.call HXr.out.1 ⟨b8', s8, x8⟩); have HBT10 := Hid.mk bt8; have sd5 : w21.cell? ⟨gB, 0, none⟩ = some (.pointer (some ⟨gc, 0, none⟩)) ∧ w21.cell? ⟨gS, 9, none⟩ = some (.int .i64 ((b9 : Nat) : Int)) := ⟨HZ21.out.bs.cells.1, HZ21.out.ar.cell 9⟩; have c10 : w21.cell? ⟨gS, 10, none⟩ = some (.int .i64 0) := HZ21.out.ar.cell 10; have f10 := HZ21.out.ar.frozen 10; have HPRE := Hid.mk (HS20.out.ex.pre.trans x8.pre); have sd6 : (w21.setCell ⟨gS, 10, none⟩ (.int .i64 ((b10 : Nat) : Int))).cell? ⟨gB, 0, none⟩ = some (.pointer (some ⟨gc, 0, none⟩)) ∧ (w21.setCell ⟨gS, 10, none⟩ (.int .i64 ((b10 : Nat) : Int))).cell? ⟨gS, 9, none⟩ = some (.int .i64 ((b9 : Nat) : Int)) := ⟨(HZ21.out.set HXr.out.1 10 _).bs.cells.1, (HZ21.out.set HXr.out.1 10 _).ar.cell 9⟩; clear b8' s8 x8 bt8))
        rename_i hHd
        clear hHd sd sd4 sd5 sd6 c10 f10 H32 H31 C31
        have HZ22 : Hid (BZ gp X2 (fun q => P q ∨ q = gB) gB (.slice ca cels.length cc) gc gS nn wr gv2 G2 (.slice none 0 0) (0 + (131 * cels.length + 1) + (262 * cels.length + 1) + (66 * cels.length + 65) + 1) (w21.setCell ⟨gS, 10, none⟩ (.int .i64 ((b10 : Nat) : Int))) gv21 G21 (sysL gc cels.length gWc fbc gWn fbn gW3 fb3 av2 b8 b9 b10 0 pv8)) := Hid.mk (HZ21.out.set HXr.out.1 10 _)
        go_upto_region 19 with fail
        generalize w21.setCell ⟨gS, 10, none⟩ (.int .i64 ((b10 : Nat) : Int)) = w22 at *
        have HZe := Hid.mk (HZ22.out.keep (Keep.refl w22).drew)
        obtain ⟨vc4, lc4, frc4⟩ := (HZe.out.fo HXr.out.1 HXr.out.2.2.2.2 HFCr.out).frm (oF := 1) HZe.out.ar (by simp [sysL, cwOf]) rfl HXr.out.1 HXr.out.2.1
        have kpe := HZe.out.kp HBL.out.bs HXr.out.1 HXr.out.2.2.2.2
        have H33 := Hid.mk (expr_b (P := fun q => P q ∨ q = gB) f t gp X2 w22.drew gB (.slice ca cels.length cc) gc gv21 G21 nn gS 1 gWc 52 _ _ _ vc4 lc4 fbc (.slice ka rows.length kc) rows HZe.out.bs frc4 HOK.out.ws (by simp [cwOf]; omega) HF.out (HRr.out.step kpe) (HEr.out.step kpe) HOK.out.wl HOK.out.wo (by have h1 := HZe.out.ex.len; have := HGL.out; have := HST.out; omega))
        simp only [efA] at H33
        rw [show f.w.toNat = 1 by rw [HOK.out.w1]; rfl] at H33
        have aPe := HZe.out.pt.arr HAPr.out HOGr.out.1 HOG13.out.1 (by simp [Value.ownBlock]) (fun a => a)
        have HAPe := Hid.mk aPe
        have sd : w22.drew.cell? ⟨gp, 2, none⟩ = some (.int .i64 f.k) ∧ w22.drew.cell? ⟨gp, 3, none⟩ = some (.int .i64 f.w) ∧ w22.drew.cell? ⟨gp, 4, none⟩ = some (.int .i64 f.o) ∧ w22.drew.cell? ⟨gp, 5, none⟩ = some (.int .u64 (f.v : Nat)) ∧ w22.drew.cell? ⟨gp, 6, none⟩ = some (.int .i64 f.c) ∧ w22.drew.cell? ⟨gp, 7, none⟩ = some (.int .i64 f.l) ∧ w22.drew.cell? ⟨gp, 8, none⟩ = some (.slice ka rows.length kc) := ⟨aPe.cell 2, aPe.cell 3, aPe.cell 4, aPe.cell 5, aPe.cell 6, aPe.cell 7, aPe.cell 8⟩
        clear frc4 kpe aPe
        go_region_held3 (fun w' => w'.cell? ⟨gp, 2, none⟩ = some (.int .i64 f.k) ∧ w'.cell? ⟨gp, 3, none⟩ = some (.int .i64 f.w) ∧ w'.cell? ⟨gp, 4, none⟩ = some (.int .i64 f.o) ∧ w'.cell? ⟨gp, 5, none⟩ = some (.int .u64 (f.v : Nat)) ∧ w'.cell? ⟨gp, 6, none⟩ = some (.int .i64 f.c) ∧ w'.cell? ⟨gp, 7, none⟩ = some (.int .i64 f.l) ∧ w'.cell? ⟨gp, 8, none⟩ = some (.slice ka rows.length kc)) (with_reducible first | exact sd | exact sd4)
          (first
            | (go_at_call 33; refine H33.out.mono ?_; rintro e w23 ⟨gv23, G23, l23, pa, pc, b23, rfl, b8', s8, x8, wo8, wv8, bt8⟩; have HZ23 := Hid.mk (HZe.out.call HXr.out.1 ⟨b8', s8, x8⟩); have HW23 := Hid.mk wo8; have HV23 := Hid.mk wv8; have sd4 : w23.cell? ⟨gp, 2, none⟩ = some (.int .i64 f.k) ∧ w23.cell? ⟨gp, 3, none⟩ = some (.int .i64 f.w) ∧ w23.cell? ⟨gp, 4, none⟩ = some (.int .i64 f.o) ∧ w23.cell? ⟨gp, 5, none⟩ = some (.int .u64 (f.v : Nat)) ∧ w23.cell? ⟨gp, 6, none⟩ = some (.int .i64 f.c) ∧ w23.cell? ⟨gp, 7, none⟩ = some (.int .i64 f.l) ∧ w23.cell? ⟨gp, 8, none⟩ = some (.slice ka rows.length kc) := by
                  have a9 := HZ23.out.pt.arr HAPr.out HOGr.out.1 HOG13.out.1 (by simp [Value.ownBlock]) (fun a => a)
                  exact ⟨a9.cell 2, a9.cell 3, a9.cell 4, a9.cell 5, a9.cell 6, a9.cell 7, a9.cell 8⟩
               have HX23 := Hid.mk x8; clear b8' s8 x8 wo8 wv8 bt8))
        rename_i hHd
        clear hHd sd sd4 H33
        obtain ⟨lb, lo, hpa⟩ := HW23.out.blk (by rw [HV23.out.len]; decide)
        subst hpa
        obtain ⟨bit, hbit, hbt⟩ := HV23.out.first (Nat.le_refl _)
        have l0 := HW23.out.at0 hbit
        have c11 : w23.cell? ⟨gS, 11, none⟩ = some (.int .i64 0) := HZ23.out.ar.cell 11
        have f11 := HZ23.out.ar.frozen 11
        have HBIT := Hid.mk hbt
        clear hbit hbt
        go_wp2_with fail
        clear l0 c11 f11
        have HZ24 : Hid (BZ gp X2 (fun q => P q ∨ q = gB) gB (.slice ca cels.length cc) gc gS nn wr gv2 G2 (.slice none 0 0) (0 + (131 * cels.length + 1) + (262 * cels.length + 1) + (66 * cels.length + 65) + 1 + 1024 * nX (f, t)) (w23.setCell ⟨gS, 11, none⟩ (.int .i64 ((bit : Nat) : Int))) gv23 G23 (sysL gc cels.length gWc fbc gWn fbn gW3 fb3 av2 b8 b9 b10 bit pv8)) := Hid.mk (HZ23.out.set HXr.out.1 11 _)
        generalize w23.setCell ⟨gS, 11, none⟩ (.int .i64 ((bit : Nat) : Int)) = w24 at *
        go_ret2
        have hAV := HAV.out
        have kr := HBL.out.pt.keepF HKP13.out hAV.2.1 hAV.2.2.1 hAV.1 (fun q a => by rw [show q = gW3 from a]; exact hAV.2.2.2)
        have hfr : ∀ q, fpC gc gv2 q → w.heap.size ≤ q := fun q a => by
          rcases HBL.out.pt.nw q a with b | b
          · exact hAV.2.1 q b
          · have := HKP13.out.size; omega
        have ke := HZ24.out.pt.keepF kr hfr hAV.2.2.1 (fun q a => by simp [Value.ownBlock] at a) (fun q a => a.elim)
        have hxs := HXr.out.1
        have hxa := HXr.out.2.2.2.2
        have hgp := HGP.out
        refine ⟨ke, Or.inr ⟨HCK.out, gS, gc, gv23, G23, pv8, av2, afl, gWc, fbc, gWn, fbn, gW3, fb3, b8, b9, b10, bit, rfl, ?_⟩⟩
        rw [hgp]
        refine ⟨HZ24.out.ar, ?_, HZ24.out.ex.wf, ?_, ?_, (HZ24.out.fo hxs hxa HFCr.out).fv, (HZ24.out.fo hxs hxa HFNr.out).fv, (HZ24.out.fo hxs hxa HFWr.out).fv, ?_, HBL.out.al, fun i hi => (HZ24.out.fo hxs hxa ((HBL.out.af i hi).2.withAv (by simp [Value.ownBlock]))).fv, HBT8b.out.ext (HPRE.out.trans HX23.out.pre), HBT9.out.ext (HPRE.out.trans HX23.out.pre), HBT10.out.ext HX23.out.pre, HBIT.out.congr (fun inp => ?_)⟩
        · have e : (pinAll (cwOf cels) (cnOf cels)).length = nn := by
            rw [pinAll_len, ← HNN.out]
            simp only [cwOf]
            omega
          rw [e]
          exact HZ24.out.bs.cc.weak (fun q a => a.elim)
        · have h1 := HZ24.out.ex.len
          have := HGL.out
          have := HST.out
          omega
        · exact HOr.out.1.fr HZ24.out.pt.fr (fun q hq e => by
            have h9 := HOr.out.2 q hq
            rcases e with e | e | e | e
            · exact h9.2.1 e
            · exact h9.1 e
            · simp [Value.ownBlock] at e
            · exact e)
        · exact HBL.out.ow.fr HZ24.out.pt.fr (fun q hq e => by
            have h9 := HBL.out.px q hq
            rcases e with e | e | e | e
            · exact (HBL.out.bs.hx q h9.1).2.1 e
            · exact h9.2 e
            · simp [Value.ownBlock] at e
            · exact e)
        · have h9 := (HFCr.out.sl inp)
          have hlt : (evOne f (evL t (S0 cels inp)) t.ws (S0 cels inp)).1 < 2 := by
            have h8 := HV23.out.lt inp
            simpa using h8
          rw [bitOf hlt]
  · have n1 : ¬ ((ckP cels body f t : Nat) : Int) = 0 := by omega
    have n2 : (((ckP cels body f t : Nat) : Int) != 0) = true := by simpa using n1
    have HN := Hid.mk hck
    clear hck n1
    go_wp2_with fail
    go_ret2
    exact ⟨HKW.out.trans HK2.out, Or.inl ⟨HN.out, rfl⟩⟩
end Go.Proofs.Qxb6500772a
