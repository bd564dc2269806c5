/- blastlaw: pop. -/
import Derived.Test.Qxb6500772aGa
import Derived.BigRegion
import Derived.Deep.RegionHeld3
namespace Go.Proofs.Qxb6500772a
open Go Go.RowKit Go.Qm
set_option linter.unusedVariables false
set_option linter.unusedSimpArgs false
attribute [local go_sem ↓] Go.wp_at_zero Go.wp_at_succ
section
variable {B : Nat} {P : Nat → Prop} {w w' : World} {gb : Nat} {cv xv sv pv nv : Value} {cels : List Cel} {es : List NE} {ss : List NS} {bad : NE} {cu nx : List (Int × Nat)} {cf : Bool} {nf : Int}
/-- A cell of the builder is written that is no slice of its stacks but xv: the expressions' stack is cut. -/
theorem BB.cutE (h : BB B P w gb cv xv sv pv nv cels es ss bad cu nx cf nf) (f : Fr (fun q => q = gb) w w') {xv' : Value} {es' : List NE} (ha : Arr w' gb 78 (bbL cv xv' sv bad pv nv cf nf)) (ho : OwnS neC 7 31 B w' xv' es') (hsub : ∀ x ∈ es', x ∈ es) (hb : xv'.ownBlock = xv.ownBlock) : BB B P w' gb cv xv' sv pv nv cels es' ss bad cu nx cf nf := by
  have kp : KP P w w' := KP.fr f (fun q a e => (h.sp q a).2.2.1 e)
  refine ⟨ha, h.lo, h.oc.fr f (fun q hq e => OwnS.neA h.oc h.ar (by decide) (by rw [← show q = gb from e]; exact hq)), ho, h.os.fr f (fun q hq e => OwnS.neA h.os h.ar (by decide) (by rw [← show q = gb from e]; exact hq)), h.ou.fr f (fun q hq e => OwnS.neA h.ou h.ar (by decide) (by rw [← show q = gb from e]; exact hq)), h.on.fr f (fun q hq e => OwnS.neA h.on h.ar (by decide) (by rw [← show q = gb from e]; exact hq)), h.hc, fun x hx => (h.he x (hsub x hx)).step kp, fun x hx => (h.hs x hx).step kp, h.hb.step kp, h.hu, h.hn, h.hf, fun q hq => ?_, h.un⟩
  obtain ⟨s0, s1, s2, s3, s4, s5, s6, s7⟩ := h.sp q hq
  exact ⟨s0, Nat.lt_of_lt_of_le s1 f.size, s2, s3, by rw [hb]; exact s4, s5, s6, s7⟩
end
theorem fr_new {P Q : Nat → Prop} {a b c : World} (h : Fr P a b) (k : Fr Q b c) (hq : ∀ q, Q q → a.heap.size ≤ q) : Fr P a c :=
  ⟨k.os.trans h.os, k.tape.trans h.tape, k.output.trans h.output, Nat.le_trans h.size k.size, fun q hl hn => (k.block q (Nat.lt_of_lt_of_le hl h.size) (fun e => by have := hq q e; omega)).trans (h.block q hl hn)⟩
set_option maxRecDepth 4000 in
set_option maxHeartbeats 4000000 in
theorem pop_c {B : Nat} {P : Nat → Prop} {w : World} {gb : Nat} {cv xv sv pv nv : Value} {cels : List Cel} {l : List NE} {x : NE} {ss : List NS} {bad : NE} {cu nx : List (Int × Nat)} {cf : Bool} {nf : Int} (h : BB B P w gb cv xv sv pv nv cels (l ++ [x]) ss bad cu nx cf nf) (hl : l.length ≤ 100000) :
    Calls Try.prog 54 #[.pointer (some ⟨gb, 0, none⟩)] w fun e w' => ∃ xv', e = .returned (.agg (neC x).toArray) ∧ xv'.ownBlock = xv.ownBlock ∧ BB B P w' gb cv xv' sv pv nv cels l ss bad cu nx cf nf ∧ Fr (fun q => q = gb) w w' := by
  rcases h.oe.form with ⟨-, e0⟩ | ⟨g, cap, cur, rfl, hB, hA, h1, h2, h3, h4⟩
  · simp at e0
  have hlen : (l ++ [x]).length = l.length + 1 := by simp
  have hget : ∀ j, j < 7 → w.cell? ⟨g, l.length * 7 + j, none⟩ = (neC x)[j]? := fun j hj => by
    rw [hA.cell, flat_take_get neC_len h4 l.length j (by simp) hj]
    simp
  obtain ⟨ka, kc, hkx, -, -⟩ := (h.he x (by simp)).2.1.form
  obtain ⟨m, hm⟩ : ∃ m, m = (l ++ [x]).length := ⟨_, rfl⟩
  obtain ⟨n, hn⟩ : ∃ n, n = l.length := ⟨_, rfl⟩
  have wn : IntKind.i64.wrap ((m : Int) - 1) = (n : Int) := by rw [IntKind.wrap_i64]; omega
  have i1 : (n : Int) < m := by omega
  have i2 : (0 : Int) ≤ n := by omega
  have i3 : (n : Int) ≤ cap := by omega
  have ne1 : gb ≠ g := fun e => OwnS.neA h.oe h.ar (by decide) (by rw [e]; rfl)
  obtain ⟨W, hW⟩ : ∃ W, W = w.alloc (.cells #[.int .i64 0, .int .i64 0, .int .i64 0, .int .u64 0, .int .i64 0, .int .i64 0, .slice none 0 0] 31) := ⟨_, rfl⟩
  have kW : Keep w W := by rw [hW]; exact (Keep.refl w).alloc _
  have aR : Arr W w.heap.size 31 [.int .i64 0, .int .i64 0, .int .i64 0, .int .u64 0, .int .i64 0, .int .i64 0, .slice none 0 0] := by rw [hW]; exact Arr.new w 31 _
  have HH := Hid.mk h
  have HA := Hid.mk hA
  have H4 := Hid.mk h4
  have HB := Hid.mk hB
  have HC : Hid (cur.length = cap * 7 ∧ cap ≤ maxLen ∧ n < m ∧ m ≤ cap ∧ n = l.length) := Hid.mk ⟨h3, h2, by omega, by omega, hn⟩
  have g0 := hget 0 (by decide)
  have g1 := hget 1 (by decide)
  have g2 := hget 2 (by decide)
  have g3 := hget 3 (by decide)
  have g4 := hget 4 (by decide)
  have g5 := hget 5 (by decide)
  have g6 := hget 6 (by decide)
  simp only [neC, efC, List.getElem?_cons_zero, List.getElem?_cons_succ, Nat.add_zero] at g0 g1 g2 g3 g4 g5 g6
  have c1 : w.cell? ⟨gb, 1, none⟩ = some (.slice (some ⟨g, 0, none⟩) (l ++ [x]).length cap) := h.ar.cell 1
  rw [← hm] at c1
  rw [← hn] at g0 g1 g2 g3 g4 g5 g6
  rw [hkx] at g6
  have HKX := Hid.mk hkx
  have HFK : Hid (∀ Z, Keep w Z → Z.cell? ⟨gb, 1, none⟩ = some (.slice (some ⟨g, 0, none⟩) m cap) ∧ Z.cell? ⟨g, n * 7, none⟩ = some (.int .i64 x.f.k) ∧ Z.cell? ⟨g, n * 7 + 1, none⟩ = some (.int .i64 x.f.w) ∧ Z.cell? ⟨g, n * 7 + 2, none⟩ = some (.int .i64 x.f.o) ∧ Z.cell? ⟨g, n * 7 + 3, none⟩ = some (.int .u64 (x.f.v : Nat)) ∧ Z.cell? ⟨g, n * 7 + 4, none⟩ = some (.int .i64 x.f.c) ∧ Z.cell? ⟨g, n * 7 + 5, none⟩ = some (.int .i64 x.f.l) ∧ Z.cell? ⟨g, n * 7 + 6, none⟩ = some (.slice ka x.kr.length kc)) := Hid.mk (fun Z k => ⟨k.cell c1, k.cell g0, k.cell g1, k.cell g2, k.cell g3, k.cell g4, k.cell g5, k.cell g6⟩)
  have HKW := Hid.mk kW
  have HAR := Hid.mk aR
  unfold maxLen at h2
  have hcap : (cap : Int) ≤ 9223372036854775807 := by omega
  clear h hA h1 h3 h4 hB hget hlen hm hn hkx g0 g1 g2 g3 g4 g5 g6 c1 kW aR
  go_enter Try.func54, Try.ntmps54
  go_upto_region 1 with fail
  rw [← hW]
  clear hW
  obtain ⟨g2, hg2⟩ : ∃ g2, g2 = w.heap.size := ⟨_, rfl⟩
  rw [← hg2] at HAR ⊢
  have HG2 := Hid.mk hg2
  clear hg2
  go_region_held3 (fun w' => w'.cell? ⟨gb, 1, none⟩ = some (.slice (some ⟨g, 0, none⟩) m cap) ∧ w'.cell? ⟨g, n * 7, none⟩ = some (.int .i64 x.f.k) ∧ w'.cell? ⟨g, n * 7 + 1, none⟩ = some (.int .i64 x.f.w) ∧ w'.cell? ⟨g, n * 7 + 2, none⟩ = some (.int .i64 x.f.o) ∧ w'.cell? ⟨g, n * 7 + 3, none⟩ = some (.int .u64 (x.f.v : Nat)) ∧ w'.cell? ⟨g, n * 7 + 4, none⟩ = some (.int .i64 x.f.c) ∧ w'.cell? ⟨g, n * 7 + 5, none⟩ = some (.int .i64 x.f.l) ∧ w'.cell? ⟨g, n * 7 + 6, none⟩ = some (.slice ka x.kr.length kc)) (with_reducible first | exact HFK.out _ HKW.out.drew | exact HFK.out _ (HKW.out.alloc _).drew | exact HFK.out _ (HKW.out.drew.alloc _)) (fail)
  rename_i hHd
  clear hHd
  obtain ⟨w3, hw3⟩ : ∃ w3, w3 = (W.alloc (.cells #[.int .i64 x.f.k, .int .i64 x.f.w, .int .i64 x.f.o, .int .u64 (x.f.v : Nat), .int .i64 x.f.c, .int .i64 x.f.l, .slice ka x.kr.length kc] 31)).drew := ⟨_, rfl⟩
  rw [← hw3]
  have k3 : Keep W w3 := by rw [hw3]; exact ((Keep.refl W).alloc _).drew
  have a3 : Arr w3 W.heap.size 31 [.int .i64 x.f.k, .int .i64 x.f.w, .int .i64 x.f.o, .int .u64 (x.f.v : Nat), .int .i64 x.f.c, .int .i64 x.f.l, .slice ka x.kr.length kc] := by rw [hw3]; exact (Arr.new W 31 _).drew
  have hlt2 : g2 < W.heap.size := HAR.out.lt
  have HA3 := Hid.mk a3
  have HK3 := Hid.mk (HKW.out.trans k3)
  have HAR3 := Hid.mk (HAR.out.keep k3)
  have aB := HH.out.ar.keep HK3.out
  have e1 : w3.cell? ⟨gb, 1, none⟩ = some (.slice (some ⟨g, 0, none⟩) m cap) := (HFK.out w3 HK3.out).1
  have e2 := aB.frozen 1
  have hgbl : gb < w.heap.size := HH.out.ar.lt
  have HNN : Hid (gb < g2 ∧ g2 < W.heap.size) := Hid.mk ⟨by have := HG2.out; omega, hlt2⟩
  generalize W.heap.size = g3 at *
  clear hw3 k3 a3 aB hlt2 hgbl
  go_upto_region 2 with fail
  go_region
  obtain ⟨w4, hw4⟩ : ∃ w4, w4 = (w3.setCell ⟨gb, 1, none⟩ (.slice (some ⟨g, 0, none⟩) n cap)).drew := ⟨_, rfl⟩
  rw [← hw4]
  have f4 : Fr (fun q => q = gb) w3 w4 := by rw [hw4]; exact (Fr.setCell (P := fun q => q = gb) (p := ⟨gb, 1, none⟩) (Fr.refl _ w3) (Or.inl rfl) _).trans (Fr.keep (Keep.refl _).drew)
  have aB4 : Arr w4 gb 78 (bbL cv (.slice (some ⟨g, 0, none⟩) n cap) sv bad pv nv cf nf) := by rw [hw4]; exact ((HH.out.ar.keep HK3.out).set 1 _).drew
  have a34 := f4.arr (fun e => by have := HNN.out; have : g3 = gb := e; omega) HA3.out
  have a24 := f4.arr (fun e => by have := HNN.out; have : g2 = gb := e; omega) HAR3.out
  have HF4 := Hid.mk f4
  have HB4 := Hid.mk aB4
  have HA24 := Hid.mk a24
  clear e1 e2 hw4 f4 aB4
  have r0 : w4.cell? ⟨g3, 0, none⟩ = some (.int .i64 x.f.k) := a34.cell 0
  have r1 : w4.cell? ⟨g3, 1, none⟩ = some (.int .i64 x.f.w) := a34.cell 1
  have r2 : w4.cell? ⟨g3, 2, none⟩ = some (.int .i64 x.f.o) := a34.cell 2
  have r3 : w4.cell? ⟨g3, 3, none⟩ = some (.int .u64 (x.f.v : Nat)) := a34.cell 3
  have r4 : w4.cell? ⟨g3, 4, none⟩ = some (.int .i64 x.f.c) := a34.cell 4
  have r5 : w4.cell? ⟨g3, 5, none⟩ = some (.int .i64 x.f.l) := a34.cell 5
  have r6 : w4.cell? ⟨g3, 6, none⟩ = some (.slice ka x.kr.length kc) := a34.cell 6
  have t0 : w4.cell? ⟨g2, 0, none⟩ = some (.int .i64 0) := a24.cell 0
  have u0 := a24.frozen 0
  have t1 : w4.cell? ⟨g2, 1, none⟩ = some (.int .i64 0) := a24.cell 1
  have u1 := a24.frozen 1
  have t2 : w4.cell? ⟨g2, 2, none⟩ = some (.int .i64 0) := a24.cell 2
  have u2 := a24.frozen 2
  have t3 : w4.cell? ⟨g2, 3, none⟩ = some (.int .u64 0) := a24.cell 3
  have u3 := a24.frozen 3
  have t4 : w4.cell? ⟨g2, 4, none⟩ = some (.int .i64 0) := a24.cell 4
  have u4 := a24.frozen 4
  have t5 : w4.cell? ⟨g2, 5, none⟩ = some (.int .i64 0) := a24.cell 5
  have u5 := a24.frozen 5
  have t6 : w4.cell? ⟨g2, 6, none⟩ = some (.slice none 0 0) := a24.cell 6
  have u6 := a24.frozen 6
  clear a34 a24
  go_wp2_with fail
  have A9 := (((((((HA24.out.set 0 (.int .i64 x.f.k)).set 1 (.int .i64 x.f.w)).set 2 (.int .i64 x.f.o)).set 3 (.int .u64 (x.f.v : Nat))).set 4 (.int .i64 x.f.c)).set 5 (.int .i64 x.f.l)).set 6 (.slice ka x.kr.length kc))
  have F9 : Fr (fun q => q = g2) w4 _ := (Fr.setCell (P := fun q => q = g2) (p := ⟨g2, 6, none⟩) (Fr.setCell (P := fun q => q = g2) (p := ⟨g2, 5, none⟩) (Fr.setCell (P := fun q => q = g2) (p := ⟨g2, 4, none⟩) (Fr.setCell (P := fun q => q = g2) (p := ⟨g2, 3, none⟩) (Fr.setCell (P := fun q => q = g2) (p := ⟨g2, 2, none⟩) (Fr.setCell (P := fun q => q = g2) (p := ⟨g2, 1, none⟩) (Fr.setCell (P := fun q => q = g2) (p := ⟨g2, 0, none⟩) (Fr.refl (fun q => q = g2) w4) (Or.inl rfl) (.int .i64 x.f.k)) (Or.inl rfl) (.int .i64 x.f.w)) (Or.inl rfl) (.int .i64 x.f.o)) (Or.inl rfl) (.int .u64 (x.f.v : Nat))) (Or.inl rfl) (.int .i64 x.f.c)) (Or.inl rfl) (.int .i64 x.f.l)) (Or.inl rfl) (.slice ka x.kr.length kc))
  have y0 := A9.cell 0
  have y1 := A9.cell 1
  have y2 := A9.cell 2
  have y3 := A9.cell 3
  have y4 := A9.cell 4
  have y5 := A9.cell 5
  have y6 := A9.cell 6
  simp only [List.set_cons_zero, List.set_cons_succ, List.getElem?_cons_zero, List.getElem?_cons_succ] at y0 y1 y2 y3 y4 y5 y6
  refine bodyPost_ret (v := .agg #[.int .i64 x.f.k, .int .i64 x.f.w, .int .i64 x.f.o, .int .u64 (x.f.v : Nat), .int .i64 x.f.c, .int .i64 x.f.l, .slice ka x.kr.length kc]) (by simp [results, Try.results54, go_sem, y0, y1, y2, y3, y4, y5, y6]) rfl ?_
  have hnc := HC.out
  have hg2 := HG2.out
  have f0 : Fr (fun q => q = gb) w w4 := (Fr.keep HK3.out).trans HF4.out
  have hF := fr_new f0 F9 (fun q e => by rw [show q = g2 from e]; omega)
  have aB9 := F9.arr (fun e => by have := HNN.out; have : gb = g2 := e; omega) HB4.out
  have hA9 := F9.arr (fun e => by have := HNN.out; have h8 := HA.out.lt; have : g = g2 := e; omega) (HF4.out.arr (fun e => ne1 e.symm) (HA.out.keep HK3.out))
  refine ⟨.slice (some ⟨g, 0, none⟩) n cap, by rw [neC, efC, HKX.out], rfl, HH.out.cutE hF aB9 ?_ (fun y hy => by simp [hy]) rfl, hF⟩
  rw [hnc.2.2.2.2]
  refine OwnS.of neC_len HB.out hA9 (by omega) hnc.2.1 hnc.1 ?_
  have h9 := congrArg (List.take (l.length * 7)) H4.out
  rw [List.take_take, List.flatMap_append] at h9
  rw [Nat.min_eq_left (by simp; omega)] at h9
  rw [h9]
  have hfl := flat_length neC 7 neC_len l
  rw [← hfl, List.take_left]
end Go.Proofs.Qxb6500772a
