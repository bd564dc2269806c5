/- interpm: Scan. -/
import Derived.Test.Qxb6500772aSa
import Derived.Test.Qxb6500772aIa
namespace Go.Proofs.Qxb6500772a
open Go Go.RowKit Go.Qm
set_option linter.unusedVariables false
set_option linter.unusedSimpArgs false
attribute [local go_sem ↓] Go.wp_at_zero Go.wp_at_succ
theorem own_cl {B d : Nat} {w : World} {v : Value} {l : List Nat} (h : Own B 28 w v (l.map uv)) (hd : B ≤ d) (hl : d < w.heap.size) : ∃ gC ca cap sp, v = .slice ca l.length cap ∧ Cl w gC ca cap sp l ∧ B ≤ gC ∧ gC < w.heap.size ∧ (gC = d ∨ v.ownBlock = some gC) := by
  rcases h.form with ⟨rfl, e⟩ | ⟨g, cap, sp, rfl, hB, hg, hc, hm⟩
  · have e1 : l = [] := List.map_eq_nil_iff.1 e
    subst e1
    exact ⟨d, none, 0, [], rfl, ⟨fun x => absurd x (by simp), by simp, by simp [maxLen]⟩, hd, hl, Or.inl rfl⟩
  · refine ⟨g, some ⟨g, 0, none⟩, cap, sp, by rw [List.length_map], ⟨fun _ => ⟨rfl, hg⟩, ?_, hm⟩, hB, blk_lt hg, Or.inr rfl⟩
    rw [List.length_map] at hc
    omega
theorem Cl.vs {w : World} {gC : Nat} {ca : Option Addr} {cap : Nat} {sp : List Value} {l : List Nat} (h : Cl w gC ca cap sp l) : Vs w (.slice ca l.length cap) l := by
  refine ⟨ca, cap, by rw [List.length_map], by rw [List.length_map]; exact h.le, h.mx, fun k u hu => ?_⟩
  have hk : k < l.length := by
    obtain ⟨h1, -⟩ := List.getElem?_eq_some_iff.1 hu
    simpa using h1
  obtain ⟨e, a⟩ := h.ce (by omega)
  refine ⟨gC, 0, e, ?_⟩
  rw [Nat.zero_add, a.cell, List.getElem?_append_left (by simpa using hk)]
  exact hu
theorem Fr.keep' {w w' : World} (f : Fr (fun q => w.heap.size ≤ q) w w') : Keep w w' := ⟨f.os, f.tape, f.output, f.size, fun q hq => f.block q hq (fun e => by omega)⟩
/-- A fresh state that Exec has worked on. -/
def NewC (B : Nat) (w : World) (S : PS) (e : Ending) : Prop := ∃ gC ca cap sp, e = .returned (.agg #[.slice ca S.cells.length cap, .bool S.fault]) ∧ Cl w gC ca cap sp S.cells ∧ B ≤ gC ∧ gC < w.heap.size
set_option maxRecDepth 4000 in
set_option maxHeartbeats 4000000 in
theorem scan_c {P : Nat → Prop} {cels : List Cel} {f : EF} {body : SL} (EX : ExC P cels f body) {w : World} {cv bv kb : Value} {brows : List (List Value)} {sa : Option Addr} {sc : Nat} {S : PS} (hcl : cels.length ≤ 1000000) (hc : CsW P w cv cels) (hb1 : Rows P w bv 8 brows) (hb2 : SLW P w body brows) (hkb : isSl kb) (hwt : wtS (cels.map (·.w)) body) (hs : Vs w (.slice sa S.cells.length sc) S.cells) (hok : StOK (cels.map (·.w)) S) (hP : ∀ q, P q → q < w.heap.size) :
    Calls Try.prog 20 #[prA cv bv f kb, .agg #[.slice sa S.cells.length sc, .bool S.fault]] w fun e w' => NewC w.heap.size w' (exL (cels.map (·.w)) body S) e ∧ Keep w w' := by
  generalize hS' : exL (cels.map (·.w)) body S = S'
  have HS' := Hid.mk hS'
  clear hS'
  obtain ⟨ka, kn, kc, rfl⟩ := hkb
  obtain ⟨pa, pc, hcv, cv1, cv2⟩ := hc.form
  subst hcv
  obtain ⟨ba, bn, bc, hbv⟩ : ∃ a m c, bv = .slice a m c := by
    obtain ⟨a, c, e, -, -⟩ := hb1.form
    exact ⟨a, _, c, e⟩
  subst hbv
  have hll : S.cells.length = cels.length := by have := hok.1; simpa using this
  obtain ⟨W, hW⟩ : ∃ W, W = ((w.alloc (.cells #[.slice pa cels.length pc, .slice ba bn bc, .int .i64 f.k, .int .i64 f.w, .int .i64 f.o, .int .u64 (f.v : Nat), .int .i64 f.c, .int .i64 f.l, .slice ka kn kc] 33)).alloc (.cells #[.slice sa S.cells.length sc, .bool S.fault] 37)).alloc (.cells #[.slice none 0 0, .bool false] 37) := ⟨_, rfl⟩
  have kW : Keep w W := by rw [hW]; exact (((Keep.refl w).alloc _).alloc _).alloc _
  have z1 : (w.alloc (.cells #[.slice pa cels.length pc, .slice ba bn bc, .int .i64 f.k, .int .i64 f.w, .int .i64 f.o, .int .u64 (f.v : Nat), .int .i64 f.c, .int .i64 f.l, .slice ka kn kc] 33)).heap.size = w.heap.size + 1 := by simp
  have z2 : ((w.alloc (.cells #[.slice pa cels.length pc, .slice ba bn bc, .int .i64 f.k, .int .i64 f.w, .int .i64 f.o, .int .u64 (f.v : Nat), .int .i64 f.c, .int .i64 f.l, .slice ka kn kc] 33)).alloc (.cells #[.slice sa S.cells.length sc, .bool S.fault] 37)).heap.size = w.heap.size + 1 + 1 := by simp
  have z3 : W.heap.size = w.heap.size + 3 := by rw [hW]; simp
  have a1 : Arr W w.heap.size 33 [.slice pa cels.length pc, .slice ba bn bc, .int .i64 f.k, .int .i64 f.w, .int .i64 f.o, .int .u64 (f.v : Nat), .int .i64 f.c, .int .i64 f.l, .slice ka kn kc] := by rw [hW]; exact ((Arr.new w 33 _).keep ((Keep.refl _).alloc _)).keep ((Keep.refl _).alloc _)
  have a2 : Arr W (w.heap.size + 1) 37 [.slice sa S.cells.length sc, .bool S.fault] := by rw [hW, ← z1]; exact (Arr.new _ 37 _).keep ((Keep.refl _).alloc _)
  have a3 : Arr W (w.heap.size + 1 + 1) 37 [.slice none 0 0, .bool false] := by rw [hW, ← z2]; exact Arr.new _ 37 _
  have CP := Hid.mk (copy_c (w := W) (b := S.fault) (Sl.keep hs kW) (by omega))
  have HLL := Hid.mk hll
  have HC := Hid.mk hc
  have HB1 := Hid.mk hb1
  have HB2 := Hid.mk hb2
  have HWT := Hid.mk hwt
  have HOK := Hid.mk hok
  have HPP := Hid.mk hP
  have HKW := Hid.mk kW
  have HZ : Hid (W.heap.size = w.heap.size + 3) := Hid.mk z3
  have HA1 := Hid.mk a1
  have HA3 := Hid.mk a3
  have x0 : W.cell? ⟨w.heap.size + 1, 0, none⟩ = some (.slice sa S.cells.length sc) := a2.cell 0
  have x1 : W.cell? ⟨w.heap.size + 1, 1, none⟩ = some (.bool S.fault) := a2.cell 1
  simp only [prA]
  clear hc hb1 hb2 hwt hok hP kW z1 z2 z3 a1 a2 a3 hs cv1 cv2 hll
  go_enter Try.func20, Try.ntmps20
  go_upto_region 1 with fail
  rw [← hW]
  clear hW
  go_wp2_with fail
  refine CP.out.mono ?_
  rintro e w2 ⟨⟨v, rfl, ow⟩, k2⟩
  have hsz := HZ.out
  have hs2 := k2.size
  have hd := HA1.out.keep k2
  obtain ⟨gC, ca, cap, sp, rfl, cl, gb1, gb2, gor⟩ := own_cl (d := w.heap.size + 1) (B := w.heap.size + 1) (w := w2) (show Own (w.heap.size + 1) 28 w2 v (S.cells.map uv) from ⟨ow.1, by
    rcases ow.2 with x | ⟨g, c, cu, e1, e2, e3⟩
    · exact Or.inl x
    · exact Or.inr ⟨g, c, cu, e1, by omega, e3⟩⟩) (Nat.le_refl _) (by omega)
  obtain ⟨V, hV⟩ : ∃ V, V = w2.alloc (.cells #[.slice ca S.cells.length cap, .bool S.fault] 37) := ⟨_, rfl⟩
  have kV : Keep w2 V := by rw [hV]; exact (Keep.refl w2).alloc _
  have aV : Arr V w2.heap.size 37 [.slice ca S.cells.length cap, .bool S.fault] := by rw [hV]; exact Arr.new w2 37 _
  obtain ⟨gS, hgS⟩ : ∃ gS, gS = w2.heap.size := ⟨_, rfl⟩
  rw [← hgS] at aV
  have kk := HKW.out.trans (k2.trans kV)
  have st : StM V gS gC ca cap sp S := ⟨aV, fun x => ⟨(cl.ce x).1, (cl.ce x).2.keep kV⟩, by omega, cl.le, cl.mx⟩
  have EXC := EX V _ _ _ _ _ gS gC ca cap sp S (fun q a e => by have := HPP.out q a; rcases e with e | e <;> omega) (HC.out.step (KP.of kk)) ⟨ba, bn, bc, rfl⟩ ⟨ka, kn, kc, rfl⟩ (HB1.out.step (KP.of kk)) (HB2.out.step (KP.of kk)) HWT.out st HOK.out (Nat.lt_of_lt_of_le gb2 kV.size)
  simp only [prA] at EXC
  rw [HS'.out] at EXC
  have HEX := Hid.mk EXC
  have d1 := hd.keep kV
  have HA3V := Hid.mk ((HA3.out.keep k2).keep kV)
  have HKV := Hid.mk kk
  have HGB : Hid (w.heap.size + 1 ≤ gC ∧ gC < w2.heap.size ∧ gS = w2.heap.size ∧ w.heap.size + 3 ≤ w2.heap.size ∧ (gC = w.heap.size + 1 ∨ W.heap.size ≤ gC)) := Hid.mk ⟨gb1, gb2, hgS, by omega, gor.elim Or.inl (fun a => Or.inr (ow.lt gC a).1)⟩
  have y0 : V.cell? ⟨w.heap.size, 0, none⟩ = some (.slice pa cels.length pc) := d1.cell 0
  have y1 : V.cell? ⟨w.heap.size, 1, none⟩ = some (.slice ba bn bc) := d1.cell 1
  have y2 : V.cell? ⟨w.heap.size, 2, none⟩ = some (.int .i64 f.k) := d1.cell 2
  have y3 : V.cell? ⟨w.heap.size, 3, none⟩ = some (.int .i64 f.w) := d1.cell 3
  have y4 : V.cell? ⟨w.heap.size, 4, none⟩ = some (.int .i64 f.o) := d1.cell 4
  have y5 : V.cell? ⟨w.heap.size, 5, none⟩ = some (.int .u64 (f.v : Nat)) := d1.cell 5
  have y6 : V.cell? ⟨w.heap.size, 6, none⟩ = some (.int .i64 f.c) := d1.cell 6
  have y7 : V.cell? ⟨w.heap.size, 7, none⟩ = some (.int .i64 f.l) := d1.cell 7
  have y8 : V.cell? ⟨w.heap.size, 8, none⟩ = some (.slice ka kn kc) := d1.cell 8
  clear x0 x1 ow k2 hsz hs2 hd cl gb1 gb2 gor kV aV kk st EXC d1
  go_upto_region 2 with fail
  rw [← hgS, ← hV]
  clear hgS hV
  go_wp2_with fail
  refine HEX.out.mono ?_
  rintro e w4 ⟨rfl, st4, fr4⟩
  have hg := HGB.out
  obtain ⟨s0, s1, sf⟩ := st4.fs
  have a3 := fr4.arr (fun e => by have := HZ.out; rcases e with e | e <;> omega) HA3V.out
  have r2 : w4.cell? ⟨w.heap.size + 1 + 1, 0, none⟩ = some (.slice none 0 0) := a3.cell 0
  have r3 : w4.cell? ⟨w.heap.size + 1 + 1, 1, none⟩ = some (.bool false) := a3.cell 1
  have r4 := a3.frozen 0
  have r5 := a3.frozen 1
  have HST := Hid.mk st4
  have HFR := Hid.mk fr4
  have HA3 := Hid.mk a3
  clear y0 y1 y2 y3 y4 y5 y6 y7 y8 st4 fr4 a3 hg
  go_wp2_with fail
  have A9 := (HA3.out.set 0 (.slice ca S'.cells.length cap)).set 1 (.bool S'.fault)
  have q0 := A9.cell 0
  have q1 := A9.cell 1
  simp only [List.set_cons_zero, List.set_cons_succ, List.getElem?_cons_zero, List.getElem?_cons_succ] at q0 q1
  have hg := HGB.out
  have hz := HZ.out
  have f9 : Fr (fun q => q = w.heap.size + 1 + 1) w4 ((w4.setCell ⟨w.heap.size + 1 + 1, 0, none⟩ (.slice ca S'.cells.length cap)).setCell ⟨w.heap.size + 1 + 1, 1, none⟩ (.bool S'.fault)) := Fr.setCell (P := fun q => q = w.heap.size + 1 + 1) (p := ⟨w.heap.size + 1 + 1, 1, none⟩) (Fr.setCell (P := fun q => q = w.heap.size + 1 + 1) (p := ⟨w.heap.size + 1 + 1, 0, none⟩) (Fr.refl _ w4) (Or.inl rfl) _) (Or.inl rfl) _
  have fz : Fr (fun q => w.heap.size ≤ q) w _ := ((Fr.keep HKV.out).trans (HFR.out.mono (fun q _ e => by rcases e with e | e <;> omega))).trans (f9.mono (fun q _ e => by have : q = w.heap.size + 1 + 1 := e; omega))
  refine bodyPost_ret (v := .agg #[.slice ca S'.cells.length cap, .bool S'.fault]) (by simp [results, Try.results20, go_sem, q0, q1]) rfl ?_
  have hsz4 : w2.heap.size ≤ w4.heap.size := by
    have h1 := HFR.out.size
    have h2 := HST.out.st.lt
    have h3 := HKV.out.size
    omega
  refine ⟨⟨gC, ca, cap, sp, rfl, ⟨fun x => ⟨(HST.out.ce x).1, f9.arr (fun e => by have : gC = w.heap.size + 1 + 1 := e; omega) (HST.out.ce x).2⟩, HST.out.le, HST.out.mx⟩, by omega, by have := f9.size; omega⟩, Fr.keep' fz⟩
end Go.Proofs.Qxb6500772a
