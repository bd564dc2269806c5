/- blastlaw: step. -/
import Derived.Test.Qxb6500772aGu
import Derived.BigQuiet
namespace Go.Proofs.Qxb6500772a
open Go Go.RowKit Go.Qm
set_option linter.unusedVariables false
set_option linter.unusedSimpArgs false
attribute [local go_sem ↓] Go.wp_at_zero Go.wp_at_succ
set_option maxRecDepth 8000 in
set_option maxHeartbeats 4000000 in
theorem step_7 {B : Nat} {P : Nat → Prop} {w : World} {gb : Nat} {cv xv sv pv nv : Value} {cels : List Cel} {es : List NE} {ss : List NS} {bad : NE} {cu nx : List (Int × Nat)} {cf : Bool} {nf : Int} {k : Nat} {A Bf Cf D : Int} (h : BB B P w gb cv xv sv pv nv cels es ss bad cu nx cf nf) (hk : BdK k cels es ss cu nx) (hk2 : k ≤ 80000) (hA : I64 A) (hB : I64 Bf) (hC : I64 Cf) (hD : I64 D) : Calls Try.prog 22 #[.pointer (some ⟨gb, 0, none⟩), .agg #[.int .i64 7, .int .i64 A, .int .i64 Bf, .int .i64 Cf, .int .i64 D]] w (StepO B gb k w) := by
  obtain ⟨va, vc, hxv⟩ := OwnS.len h.oe
  obtain ⟨sa, sc, hsv⟩ := OwnS.len h.os
  obtain ⟨W, hW⟩ : ∃ W, W = w.alloc (.cells #[.int .i64 7, .int .i64 A, .int .i64 Bf, .int .i64 Cf, .int .i64 D] 81) := ⟨_, rfl⟩
  have sI := SIn.of h (.int .i64 7) (.int .i64 A) (.int .i64 Bf) (.int .i64 Cf) (.int .i64 D)
  rw [← hW] at sI
  generalize hgO : w.heap.size = gO at sI
  have c1 : W.cell? ⟨gb, 1, none⟩ = some (.slice va es.length vc) := by rw [← hxv]; exact sI.b.ar.cell 1
  have c2 : W.cell? ⟨gb, 2, none⟩ = some (.slice sa ss.length sc) := by rw [← hsv]; exact sI.b.ar.cell 2
  have q0 : W.cell? ⟨gO, 0, none⟩ = some (.int .i64 7) := sI.o.cell 0
  have q1 : W.cell? ⟨gO, 1, none⟩ = some (.int .i64 A) := sI.o.cell 1
  have q2 : W.cell? ⟨gO, 2, none⟩ = some (.int .i64 Bf) := sI.o.cell 2
  have q3 : W.cell? ⟨gO, 3, none⟩ = some (.int .i64 Cf) := sI.o.cell 3
  have q4 : W.cell? ⟨gO, 4, none⟩ = some (.int .i64 D) := sI.o.cell 4
  have HS := Hid.mk sI
  have HV := Hid.mk hxv
  have HVS := Hid.mk hsv
  have HK := Hid.mk hk
  have HK2 := Hid.mk hk2
  have HI : Hid (I64 A ∧ I64 Bf ∧ I64 Cf ∧ I64 D) := Hid.mk ⟨hA, hB, hC, hD⟩
  clear h hk hk2 hxv hsv sI hA hB hC hD
  go_enter Try.func22, Try.ntmps22
  go_upto_region 1 with fail
  rw [← hW]
  clear hW hgO
  by_cases hn : es.length < 3
  · have j1 : ¬ ((3 : Int) ≤ (es.length : Int)) := by omega
    go_wp2_with fail
    go_end0
    have hk := HK.out
    unfold BdK at hk
    exact ⟨rfl, ⟨P, cv, xv, sv, pv, nv, cels, es, ss, bad, cu, nx, cf, nf, HS.out.b, by omega, by omega, by omega, by omega, by omega, by omega⟩, Fr.keep HS.out.k⟩
  · have j1 : ((3 : Int) ≤ (es.length : Int)) := by omega
    have HN : Hid (3 ≤ es.length) := Hid.mk (by omega)
    clear hn
    obtain ⟨l0, ys, hly, hyl⟩ : ∃ l0 ys, es = l0 ++ ys ∧ ys.length = 3 := by
      have := HN.out
      exact ⟨es.take (es.length - 3), es.drop (es.length - 3), (List.take_append_drop _ _).symm, by rw [List.length_drop]; omega⟩
    have hll : l0.length ≤ es.length := by rw [hly]; simp
    have hl0 : l0.length ≤ 80000 := by have := HK.out; unfold BdK at this; have := HK2.out; omega
    have sD := HS.out
    rw [hly] at sD
    have hp := popN_c sD.b (by omega) (by omega)
    rw [hyl] at hp
    have HP := Hid.mk hp
    have HSD := Hid.mk sD
    have HYL := Hid.mk hyl
    have HLY := Hid.mk hly
    have HL0 : Hid (l0.length ≤ 80000 ∧ l0.length ≤ es.length) := Hid.mk ⟨hl0, hll⟩
    clear hp sD hyl hly hl0 hll
    go_wp2_with fail
    refine HP.out.mono ?_
    rintro e w2 ⟨xv', gL, rfl, ob, nw, fr, bb, rr, el⟩
    obtain ⟨w', hw'⟩ : ∃ w', w' = w2.alloc (.cells #[.int .i64 6, .int .i64 0, .int .i64 0, .int .u64 0, .int .i64 0, .int .i64 0, .slice (some ⟨gL, 0, none⟩) 3 3] 31) := ⟨_, rfl⟩
    have k9 : Keep w2 w' := by rw [hw']; exact (Keep.refl w2).alloc _
    have a9 : Arr w' w2.heap.size 31 [.int .i64 6, .int .i64 0, .int .i64 0, .int .u64 0, .int .i64 0, .int .i64 0, .slice (some ⟨gL, 0, none⟩) 3 3] := by rw [hw']; exact Arr.new w2 31 _
    have hyl := HYL.out
    have PD : Popd B P W w' gb cv xv sv pv nv cels l0 ys ss bad cu nx cf nf xv' gL := Popd.keep ⟨ob, nw, bb, by rw [hyl]; exact rr, el⟩ k9
    obtain ⟨gE, hgE⟩ : ∃ gE, gE = w2.heap.size := ⟨_, rfl⟩
    rw [← hgE] at a9
    have bx := Bx.ofPop HSD.out PD (by rw [hgE]; exact fr.size) (fun e => by have := (bb.sp gL (Or.inr rfl)).2.1; omega) a9 (fr.trans (Fr.keep k9))
    have hrr := PD.rw'
    rw [hyl] at hrr
    have HSB : Hid (∀ x ∈ l0 ++ ys, NEok P W x) := Hid.mk HSD.out.b.he
    clear k9 a9 ob nw bb rr el fr
    go_upto_region 34 with fail
    rw [← hgE, ← hw']
    clear hgE hw' c1 c2 q0 q1 q2 q3 q4
    have hkid : ∃ z, w'.cell? ⟨gL, 8, none⟩ = some (.int .i64 z) ∧ I64 z := by
      have hi : 1 < ys.length := by omega
      obtain ⟨ra, rc, rv, -, -, rcell⟩ := PD.rw'
      obtain ⟨rb, ro, re, -, -, rcs⟩ := rcell 1 (by simpa using hi)
      injection rv with rv1
      rw [re] at rv1
      injection rv1 with rv1
      injection rv1 with rv1 rv2
      have h1 := rcs 1 (by decide)
      rw [← rv1, ← rv2] at h1
      have h2 : ys[1] ∈ l0 ++ ys := List.mem_append_right _ (List.getElem_mem hi)
      exact ⟨ys[1].f.w, by simpa [neC, efC] using h1, (HSB.out _ h2).1.w⟩
    obtain ⟨kw, hkc, hkw⟩ := hkid
    have HKW := Hid.mk hkw
    clear hkw
    have HBX := Hid.mk bx
    have HRR := Hid.mk hrr
    have HEL := Hid.mk PD.el
    have x6 : w'.cell? ⟨gE, 6, none⟩ = some (.slice (some ⟨gL, 0, none⟩) 3 3) := bx.x.cell 6
    have x1 : w'.cell? ⟨gE, 1, none⟩ = some (.int .i64 0) := bx.x.cell 1
    have x1f := bx.x.frozen 1
    clear bx hrr PD hyl
    go_upto_region 35 with fail
    obtain ⟨w3, hw3⟩ : ∃ w3, w3 = w'.setCell ⟨gE, 1, none⟩ (.int .i64 kw) := ⟨_, rfl⟩
    rw [← hw3]
    have bx3 := HBX.out.set 1 (.int .i64 kw)
    have kp2 := HBX.out.kp 1 (.int .i64 kw)
    rw [← hw3] at bx3 kp2
    have hrr2 := HRR.out.step kp2
    have hel2 := HEL.out.step kp2
    have hl0 := HL0.out.1
    have hll := HL0.out.2
    clear x6 x1 x1f hkc kp2 hw3
    obtain ⟨xa9, xc9, hx9⟩ := OwnS.len bx3.b.oe
    have bxD := bx3.drew
    rw [hx9] at bxD
    refine tq35_c (P := (fun q => P q ∨ q = gL)) (gO := gO) (gE := gE) (A := A) (Bf := Bf) (Cf := Cf) (D := D) (Kf := 7) (focE (P := (fun q => P q ∨ q = gL)) (cv := cv) (sv := sv) (pv := pv) (nv := nv) (cels := cels) (ss := ss) (bad := bad) (cu := cu) (nx := nx) (cf := cf) (nf := nf) bxD.b.lo) rfl bxD.b.ar bxD.b.r (by omega) rfl rfl ⟨⟨6, kw, 0, 0, 0, 0⟩, .slice (some ⟨gL, 0, none⟩) 3 3, mkE ys, ys.map neC⟩ bxD.x (fun e => bxD.xg gb (Or.inl rfl) e.symm) (fun e => bxD.xg gE (Or.inr (Or.inr (Or.inl e))) rfl) (⟨⟨by simp [I64], HKW.out, by simp [I64], by simp, by simp [I64], by simp [I64]⟩, hrr2.step (KP.of (Keep.refl w3).drew), hel2.step (KP.of (Keep.refl w3).drew)⟩) trivial ?_
    rintro vs2 w9 ⟨g, c, x, -, L⟩
    have F : BSt B gb (k + 1) w9 ∧ Fr (fun q => B ≤ q) w w9 := by
      obtain ⟨k1, k2, k3, k4, k5, k6⟩ := HK.out
      exact bxD.finE k1 (by omega) k3 k4 k5 k6 L
    generalize h9 : lay _ _ = a9
    have hdf : a9.defers = [] := by rw [← h9, lay_defers]
    clear h9
    go_wp2_with fail
    exact bodyPost_end (results_none rfl a9.tmps Try.prog w9) hdf ⟨rfl, F⟩
def tq38 : Array Oper := #[{ dst := some 236, op := Go.Op.move (Go.Operand.tmp 0), type := 75, pos := "build.go:143", after := #[], guard := none }, { dst := some 237, op := Go.Op.nilCheck (Go.Operand.tmp 236), type := 0, pos := "build.go:143", after := #[{ on := 0, ground := Go.Ground.data }], guard := none }, { dst := some 238, op := Go.Op.fieldAddr 78 (Go.Operand.tmp 237) 1, type := 0, pos := "build.go:143", after := #[{ on := 1, ground := Go.Ground.data }], guard := none }, { dst := some 239, op := Go.Op.load 29 (Go.Operand.tmp 238), type := 29, pos := "build.go:143", after := #[{ on := 2, ground := Go.Ground.data }], guard := none }, { dst := some 240, op := Go.Op.move (Go.Operand.tmp 4), type := 3, pos := "build.go:143", after := #[], guard := none }, { dst := some 241, op := Go.Op.binOp Go.BinOp.sub 3 (Go.Operand.tmp 240) (Go.Operand.const (Go.Value.int Go.IntKind.i64 1)) 3, type := 3, pos := "build.go:143", after := #[{ on := 4, ground := Go.Ground.data }], guard := none }, { dst := some 242, op := Go.Op.indexAddr 29 (Go.Operand.tmp 239) (Go.Operand.tmp 241), type := 0, pos := "build.go:143", after := #[{ on := 3, ground := Go.Ground.data }, { on := 5, ground := Go.Ground.data }], guard := none }, { dst := some 243, op := Go.Op.fieldAddr 81 (Go.Operand.tmp 3) 1, type := 0, pos := "build.go:143", after := #[], guard := none }, { dst := some 244, op := Go.Op.load 3 (Go.Operand.tmp 243), type := 3, pos := "build.go:143", after := #[{ on := 7, ground := Go.Ground.data }], guard := none }, { dst := some 245, op := Go.Op.fieldAddr 81 (Go.Operand.tmp 3) 2, type := 0, pos := "build.go:143", after := #[], guard := none }, { dst := some 246, op := Go.Op.load 3 (Go.Operand.tmp 245), type := 3, pos := "build.go:143", after := #[{ on := 9, ground := Go.Ground.data }], guard := none }, { dst := some 247, op := Go.Op.call { callee := Go.Callee.value (Go.Operand.func 52), args := #[Go.Operand.tmp 242, Go.Operand.tmp 244, Go.Operand.tmp 246], argTypes := #[125, 3, 3] }, type := 0, pos := "build.go:143", after := #[{ on := 6, ground := Go.Ground.data }, { on := 8, ground := Go.Ground.data }, { on := 10, ground := Go.Ground.data }], guard := none }]
def tq38T (gb gO g m c : Nat) (A Bf : Int) : List (Option Nat × (Value ⊕ Nat)) := [(some 236, .inl (.pointer (some ⟨gb, 0, none⟩))), (some 237, .inl (.pointer (some ⟨gb, 0, none⟩))), (some 238, .inl (.pointer (some ⟨gb, 1, none⟩))), (some 239, .inl (.slice (some ⟨g, 0, none⟩) (m + 1) c)), (some 240, .inl (.int .i64 (((m + 1 : Nat)) : Int))), (some 241, .inl (.int .i64 (((m : Nat)) : Int))), (some 242, .inl (.pointer (some ⟨g, m * 7, none⟩))), (some 243, .inl (.pointer (some ⟨gO, 1, none⟩))), (some 244, .inl (.int .i64 A)), (some 245, .inl (.pointer (some ⟨gO, 2, none⟩))), (some 246, .inl (.int .i64 Bf)), (some 247, .inr 0)]
theorem tq38_chk : chk tq38 tq38.size = true := by kernel_rfl
set_option maxRecDepth 4000 in
set_option maxHeartbeats 4000000 in
theorem tq38_c {Q : Exit → Act → World → Prop} {a0 : Act} {w : World} (gb gO g m c : Nat) (A Bf : Int) (FO : World → Prop) (hz0 : a0.tmps.size = 500) (h0 : a0.tmps[0]? = some (.pointer (some ⟨gb, 0, none⟩))) (h3 : a0.tmps[3]? = some (.pointer (some ⟨gO, 0, none⟩))) (h4 : a0.tmps[4]? = some (.int .i64 (((m + 1 : Nat)) : Int))) (hm : m ≤ 900000) (hc0 : w.drew.cell? ⟨gb, 1, none⟩ = some (.slice (some ⟨g, 0, none⟩) (m + 1) c)) (hq1 : w.drew.cell? ⟨gO, 1, none⟩ = some (.int .i64 A)) (hq2 : w.drew.cell? ⟨gO, 2, none⟩ = some (.int .i64 Bf))
    (hcall : Calls Try.prog 52 #[.pointer (some ⟨g, m * 7, none⟩), .int .i64 A, .int .i64 Bf] w.drew fun e w' => e = .returned (.tuple #[]) ∧ FO w')
    (hend : ∀ a w', a.defers = a0.defers → FO w' → Q .normal a w') :
    (Code.region 38 tq38 true).wp Try.prog Q a0 w := by
  refine wp_region_mx (by rfl) (tq38T gb gO g m c A Bf) [236, 237, 238, 239, 240, 241, 242, 243, 244, 245, 246, 247] [none, none, none, none, none, none, none, none, none, none, none, some 0] [11] rfl rfl rfl tq38_chk (by decide) (by decide) (by
    intro d hd
    rw [hz0]
    have : ∀ y ∈ [236, 237, 238, 239, 240, 241, 242, 243, 244, 245, 246, 247], y < 500 := by decide
    exact this _ hd) (fun vs w' => (vs 0 = none → w' = w.drew) ∧ (∀ u, vs 0 = some u → FO w')) ⟨fun _ => rfl, (fun u h => by cases h)⟩ ?_ ?_
  · intro i d x hT listed vs a w' h
    match i, hT with
    | 0, hT =>
      obtain ⟨rfl, rfl⟩ := Prod.mk.inj (Option.some.inj (show some ((some 236 : Option Nat), (.inl (.pointer (some ⟨gb, 0, none⟩)) : Value ⊕ Nat)) = some (d, x) from hT))
      exact wpOp_of _ rfl rfl (v_move (.tmp 0) _ rfl (veval_of ((h.ot 0 (by decide)).trans h0)) ⟨rfl, rfl⟩)
    | 1, hT =>
      obtain ⟨rfl, rfl⟩ := Prod.mk.inj (Option.some.inj (show some ((some 237 : Option Nat), (.inl (.pointer (some ⟨gb, 0, none⟩)) : Value ⊕ Nat)) = some (d, x) from hT))
      exact wpOp_of _ rfl rfl (v_nil (.tmp 236) _ rfl (veval_of (h.val 0 236 _ rfl (by decide))) ⟨rfl, rfl⟩)
    | 2, hT =>
      obtain ⟨rfl, rfl⟩ := Prod.mk.inj (Option.some.inj (show some ((some 238 : Option Nat), (.inl (.pointer (some ⟨gb, 1, none⟩)) : Value ⊕ Nat)) = some (d, x) from hT))
      exact wpOp_of _ rfl rfl (v_f78 (.tmp 237) 1 _ 1 rfl (by decide) (veval_of (h.val 1 237 _ rfl (by decide))) ⟨rfl, rfl⟩)
    | 3, hT =>
      obtain ⟨rfl, rfl⟩ := Prod.mk.inj (Option.some.inj (show some ((some 239 : Option Nat), (.inl (.slice (some ⟨g, 0, none⟩) (m + 1) c) : Value ⊕ Nat)) = some (d, x) from hT))
      have hw := h.r.1 (h.later 0 11 rfl 12 (by kernel_rfl))
      subst hw
      exact wpOp_of _ rfl rfl (v_load29 (.tmp 238) _ _ _ rfl (veval_of (h.val 2 238 _ rfl (by decide))) hc0 ⟨rfl, rfl⟩)
    | 4, hT =>
      obtain ⟨rfl, rfl⟩ := Prod.mk.inj (Option.some.inj (show some ((some 240 : Option Nat), (.inl (.int .i64 (((m + 1 : Nat)) : Int)) : Value ⊕ Nat)) = some (d, x) from hT))
      exact wpOp_of _ rfl rfl (v_move (.tmp 4) _ rfl (veval_of ((h.ot 4 (by decide)).trans h4)) ⟨rfl, rfl⟩)
    | 5, hT =>
      obtain ⟨rfl, rfl⟩ := Prod.mk.inj (Option.some.inj (show some ((some 241 : Option Nat), (.inl (.int .i64 (((m : Nat)) : Int)) : Value ⊕ Nat)) = some (d, x) from hT))
      exact wpOp_of _ rfl rfl (v_sub1 (.tmp 240) (m + 1) (by omega) (by omega) rfl (veval_of (h.val 4 240 _ rfl (by decide))) ⟨rfl, rfl⟩)
    | 6, hT =>
      obtain ⟨rfl, rfl⟩ := Prod.mk.inj (Option.some.inj (show some ((some 242 : Option Nat), (.inl (.pointer (some ⟨g, m * 7, none⟩)) : Value ⊕ Nat)) = some (d, x) from hT))
      exact wpOp_of _ rfl rfl (v_idx29 (.tmp 239) (.tmp 241) _ _ _ _ rfl (veval_of (h.val 3 239 _ rfl (by decide))) (veval_of (h.val 5 241 _ rfl (by decide))) (Nat.lt_succ_self _) ⟨rfl, rfl⟩)
    | 7, hT =>
      obtain ⟨rfl, rfl⟩ := Prod.mk.inj (Option.some.inj (show some ((some 243 : Option Nat), (.inl (.pointer (some ⟨gO, 1, none⟩)) : Value ⊕ Nat)) = some (d, x) from hT))
      exact wpOp_of _ rfl rfl (v_f81 (.tmp 3) 1 _ 1 rfl (by decide) (veval_of ((h.ot 3 (by decide)).trans h3)) ⟨rfl, rfl⟩)
    | 8, hT =>
      obtain ⟨rfl, rfl⟩ := Prod.mk.inj (Option.some.inj (show some ((some 244 : Option Nat), (.inl (.int .i64 A) : Value ⊕ Nat)) = some (d, x) from hT))
      have hw := h.r.1 (h.later 0 11 rfl 12 (by kernel_rfl))
      subst hw
      exact wpOp_of _ rfl rfl (v_load3 (.tmp 243) _ _ _ rfl (veval_of (h.val 7 243 _ rfl (by decide))) hq1 ⟨rfl, rfl⟩)
    | 9, hT =>
      obtain ⟨rfl, rfl⟩ := Prod.mk.inj (Option.some.inj (show some ((some 245 : Option Nat), (.inl (.pointer (some ⟨gO, 2, none⟩)) : Value ⊕ Nat)) = some (d, x) from hT))
      exact wpOp_of _ rfl rfl (v_f81 (.tmp 3) 2 _ 2 rfl (by decide) (veval_of ((h.ot 3 (by decide)).trans h3)) ⟨rfl, rfl⟩)
    | 10, hT =>
      obtain ⟨rfl, rfl⟩ := Prod.mk.inj (Option.some.inj (show some ((some 246 : Option Nat), (.inl (.int .i64 Bf) : Value ⊕ Nat)) = some (d, x) from hT))
      have hw := h.r.1 (h.later 0 11 rfl 12 (by kernel_rfl))
      subst hw
      exact wpOp_of _ rfl rfl (v_load3 (.tmp 245) _ _ _ rfl (veval_of (h.val 9 245 _ rfl (by decide))) hq2 ⟨rfl, rfl⟩)
    | 11, hT =>
      obtain ⟨rfl, rfl⟩ := Prod.mk.inj (Option.some.inj (show some ((some 247 : Option Nat), (.inr 0 : Value ⊕ Nat)) = some (d, x) from hT))
      have hw := h.r.1 (h.not 0 rfl)
      subst hw
      refine wpOp_of _ rfl rfl (v_call 52 _ _ rfl _ Try.func52 (by kernel_rfl) (by kernel_rfl) #[.pointer (some ⟨g, m * 7, none⟩), .int .i64 A, .int .i64 Bf] (by simp [veval_of (h.val 6 242 _ rfl (by decide)), veval_of (h.val 8 244 _ rfl (by decide)), veval_of (h.val 10 246 _ rfl (by decide))]; exact ⟨rfl, rfl, rfl⟩) (hcall.mono ?_))
      rintro e y ⟨rfl, hy⟩
      exact ⟨_, rfl, _, rfl, (fun e => by cases e), fun _ _ => hy⟩
    | i + 12, hT => simp [tq38T] at hT
  · intro vs w' hv hR
    obtain ⟨u, e⟩ := hv 0 (by decide)
    exact hend _ w' (lay_defers _ _) (hR.2 u e)
set_option maxRecDepth 8000 in
set_option maxHeartbeats 4000000 in
theorem step_8 {B : Nat} {P : Nat → Prop} {w : World} {gb : Nat} {cv xv sv pv nv : Value} {cels : List Cel} {es : List NE} {ss : List NS} {bad : NE} {cu nx : List (Int × Nat)} {cf : Bool} {nf : Int} {k : Nat} {A Bf Cf D : Int} (h : BB B P w gb cv xv sv pv nv cels es ss bad cu nx cf nf) (hk : BdK k cels es ss cu nx) (hk2 : k ≤ 80000) (hA : I64 A) (hB : I64 Bf) (hC : I64 Cf) (hD : I64 D) : Calls Try.prog 22 #[.pointer (some ⟨gb, 0, none⟩), .agg #[.int .i64 8, .int .i64 A, .int .i64 Bf, .int .i64 Cf, .int .i64 D]] w (StepO B gb k w) := by
  obtain ⟨va, vc, hxv⟩ := OwnS.len h.oe
  obtain ⟨sa, sc, hsv⟩ := OwnS.len h.os
  obtain ⟨W, hW⟩ : ∃ W, W = w.alloc (.cells #[.int .i64 8, .int .i64 A, .int .i64 Bf, .int .i64 Cf, .int .i64 D] 81) := ⟨_, rfl⟩
  have sI := SIn.of h (.int .i64 8) (.int .i64 A) (.int .i64 Bf) (.int .i64 Cf) (.int .i64 D)
  rw [← hW] at sI
  generalize hgO : w.heap.size = gO at sI
  have c1 : W.cell? ⟨gb, 1, none⟩ = some (.slice va es.length vc) := by rw [← hxv]; exact sI.b.ar.cell 1
  have c2 : W.cell? ⟨gb, 2, none⟩ = some (.slice sa ss.length sc) := by rw [← hsv]; exact sI.b.ar.cell 2
  have q0 : W.cell? ⟨gO, 0, none⟩ = some (.int .i64 8) := sI.o.cell 0
  have q1 : W.cell? ⟨gO, 1, none⟩ = some (.int .i64 A) := sI.o.cell 1
  have q2 : W.cell? ⟨gO, 2, none⟩ = some (.int .i64 Bf) := sI.o.cell 2
  have q3 : W.cell? ⟨gO, 3, none⟩ = some (.int .i64 Cf) := sI.o.cell 3
  have q4 : W.cell? ⟨gO, 4, none⟩ = some (.int .i64 D) := sI.o.cell 4
  have HS := Hid.mk sI
  have HV := Hid.mk hxv
  have HVS := Hid.mk hsv
  have HK := Hid.mk hk
  have HK2 := Hid.mk hk2
  have HI : Hid (I64 A ∧ I64 Bf ∧ I64 Cf ∧ I64 D) := Hid.mk ⟨hA, hB, hC, hD⟩
  clear h hk hk2 hxv hsv sI hA hB hC hD
  go_enter Try.func22, Try.ntmps22
  go_upto_region 1 with fail
  rw [← hW]
  clear hW hgO
  by_cases hn : es.length < 1
  · have j1 : ¬ ((1 : Int) ≤ (es.length : Int)) := by omega
    go_wp2_with fail
    go_end0
    have hk := HK.out
    unfold BdK at hk
    exact ⟨rfl, ⟨P, cv, xv, sv, pv, nv, cels, es, ss, bad, cu, nx, cf, nf, HS.out.b, by omega, by omega, by omega, by omega, by omega, by omega⟩, Fr.keep HS.out.k⟩
  · have j1 : ((1 : Int) ≤ (es.length : Int)) := by omega
    have HN : Hid (1 ≤ es.length) := Hid.mk (by omega)
    clear hn
    go_upto_region 38 with fail
    clear c1 c2 q0 q1 q2 q3 q4
    obtain ⟨l0, x, hly⟩ : ∃ l0 x, es = l0 ++ [x] := ⟨es.dropLast, es.getLast (fun e => by have := HN.out; rw [e] at this; simp at this), (List.dropLast_concat_getLast _).symm⟩
    subst hly
    have sD := HS.out.drew
    rcases sD.b.oe.form with ⟨-, e0⟩ | ⟨g, cap, cur, hxv, hB, hA, h1, h2, h3, h4⟩
    · simp at e0
    rw [List.length_append, List.length_singleton] at hxv
    rw [hxv] at sD
    have hget : ∀ j, j < 7 → W.drew.cell? ⟨g, l0.length * 7 + j, none⟩ = (neC x)[j]? := fun j hj => by
      rw [hA.cell, flat_take_get neC_len h4 l0.length j (by simp) hj]
      simp
    have hxo := sD.b.he x (by simp)
    obtain ⟨ka, kc, hkx, hk1, hk2⟩ := hxo.2.1.form
    have g0 := hget 0 (by decide)
    have g1 := hget 1 (by decide)
    have g2 := hget 2 (by decide)
    have g3 := hget 3 (by decide)
    have g4 := hget 4 (by decide)
    have g5 := hget 5 (by decide)
    have g6 := hget 6 (by decide)
    simp only [neC, efC, List.getElem?_cons_zero, List.getElem?_cons_succ, Nat.add_zero] at g0 g1 g2 g3 g4 g5 g6
    rw [hkx] at g6
    obtain ⟨U, hU, hU64⟩ := u64_nat Bf
    have hll : (l0 ++ [x]).length = l0.length + 1 := by simp
    refine tq38_c gb gO g l0.length cap A Bf (fun w' => ∃ x', BB B P w' gb cv (.slice (some ⟨g, 0, none⟩) (l0.length + 1) cap) sv pv nv cels (l0 ++ [x']) ss bad cu nx cf nf ∧ Fr (fun q => q = g) W.drew w') rfl rfl rfl (by show some (Value.int IntKind.i64 (((l0 ++ [x]).length : Nat) : Int)) = _; rw [hll]) (by have := HK.out; unfold BdK at this; have := HK2.out; omega) (sD.b.ar.cell 1) (sD.o.cell 1) (sD.o.cell 2) ?_ ?_
    · refine (force_c g0 g1 g2 g3 g4 g5 g6 (hA.frozen _) (hA.frozen _) (hA.frozen _) (hA.frozen _) (hA.frozen _) (hA.frozen _) (hA.frozen _) hk1 hk2 hU).mono ?_
      rintro e w' ⟨he, hf⟩
      exact ⟨he, BB.force sD.b hkx HI.out.2.1 hU64 hf⟩
    · rintro a9 w' hdf ⟨x', b', fr⟩
      have hlt := sD.b.oe.lt g rfl
      have F : BSt B gb (k + 1) w' ∧ Fr (fun q => B ≤ q) w w' := by
        obtain ⟨k1, k2, k3, k4, k5, k6⟩ := HK.out
        rw [hll] at k2
        exact ⟨⟨P, _, _, _, _, _, _, _, _, _, _, _, _, _, b', by omega, by simp; omega, by omega, by omega, by omega, by omega⟩, (Fr.keep sD.k).trans (fr.mono (fun q _ e => by rw [show q = g from e]; exact hlt.1))⟩
      go_wp2_with fail
      exact bodyPost_end (results_none rfl a9.tmps Try.prog w') (hdf.trans rfl) ⟨rfl, F⟩
set_option maxRecDepth 8000 in
set_option maxHeartbeats 4000000 in
theorem step_12 {B : Nat} {P : Nat → Prop} {w : World} {gb : Nat} {cv xv sv pv nv : Value} {cels : List Cel} {es : List NE} {ss : List NS} {bad : NE} {cu nx : List (Int × Nat)} {cf : Bool} {nf : Int} {k : Nat} {A Bf Cf D : Int} (h : BB B P w gb cv xv sv pv nv cels es ss bad cu nx cf nf) (hk : BdK k cels es ss cu nx) (hk2 : k ≤ 80000) (hA : I64 A) (hB : I64 Bf) (hC : I64 Cf) (hD : I64 D) : Calls Try.prog 22 #[.pointer (some ⟨gb, 0, none⟩), .agg #[.int .i64 12, .int .i64 A, .int .i64 Bf, .int .i64 Cf, .int .i64 D]] w (StepO B gb k w) := by
  obtain ⟨va, vc, hxv⟩ := OwnS.len h.oe
  obtain ⟨sa, sc, hsv⟩ := OwnS.len h.os
  obtain ⟨W, hW⟩ : ∃ W, W = w.alloc (.cells #[.int .i64 12, .int .i64 A, .int .i64 Bf, .int .i64 Cf, .int .i64 D] 81) := ⟨_, rfl⟩
  have sI := SIn.of h (.int .i64 12) (.int .i64 A) (.int .i64 Bf) (.int .i64 Cf) (.int .i64 D)
  rw [← hW] at sI
  generalize hgO : w.heap.size = gO at sI
  have c1 : W.cell? ⟨gb, 1, none⟩ = some (.slice va es.length vc) := by rw [← hxv]; exact sI.b.ar.cell 1
  have c2 : W.cell? ⟨gb, 2, none⟩ = some (.slice sa ss.length sc) := by rw [← hsv]; exact sI.b.ar.cell 2
  have q0 : W.cell? ⟨gO, 0, none⟩ = some (.int .i64 12) := sI.o.cell 0
  have q1 : W.cell? ⟨gO, 1, none⟩ = some (.int .i64 A) := sI.o.cell 1
  have q2 : W.cell? ⟨gO, 2, none⟩ = some (.int .i64 Bf) := sI.o.cell 2
  have q3 : W.cell? ⟨gO, 3, none⟩ = some (.int .i64 Cf) := sI.o.cell 3
  have q4 : W.cell? ⟨gO, 4, none⟩ = some (.int .i64 D) := sI.o.cell 4
  have HS := Hid.mk sI
  have HV := Hid.mk hxv
  have HVS := Hid.mk hsv
  have HK := Hid.mk hk
  have HK2 := Hid.mk hk2
  have HI : Hid (I64 A ∧ I64 Bf ∧ I64 Cf ∧ I64 D) := Hid.mk ⟨hA, hB, hC, hD⟩
  clear h hk hk2 hxv hsv sI hA hB hC hD
  go_enter Try.func22, Try.ntmps22
  go_upto_region 1 with fail
  rw [← hW]
  clear hW hgO
  have hD4 := HI.out.2.2.2
  by_cases hd0 : D < 0
  · have e1 : decide ((0 : Int) ≤ D) = false := by simp; omega
    have e2 : ¬ (0 : Int) ≤ D := by omega
    go_upto_region 52 with fail
    go_quiet (fail)
    have hk := HK.out
    unfold BdK at hk
    go_wp2_with fail
    go_end0
    exact ⟨rfl, ⟨P, cv, xv, sv, pv, nv, cels, es, ss, bad, cu, nx, cf, nf, (HS.out.drewN _).b, by omega, by omega, by omega, by omega, by omega, by omega⟩, Fr.keep (HS.out.drewN _).k⟩
  obtain ⟨dd, rfl⟩ : ∃ dd : Nat, D = dd := ⟨D.toNat, by omega⟩
  have e1 : (0 : Int) ≤ (dd : Int) := by omega
  by_cases hdl : ss.length < dd
  · have e2 : ¬ (dd : Int) ≤ (ss.length : Int) := by omega
    go_upto_region 52 with fail
    go_quiet (fail)
    have hk := HK.out
    unfold BdK at hk
    go_wp2_with fail
    go_end0
    exact ⟨rfl, ⟨P, cv, xv, sv, pv, nv, cels, es, ss, bad, cu, nx, cf, nf, (HS.out.drewN _).b, by omega, by omega, by omega, by omega, by omega, by omega⟩, Fr.keep (HS.out.drewN _).k⟩
  have e2 : (dd : Int) ≤ (ss.length : Int) := by omega
  obtain ⟨s1, s2, hsl, hs2⟩ : ∃ s1 s2, ss = s1 ++ s2 ∧ s2.length = dd := ⟨ss.take (ss.length - dd), ss.drop (ss.length - dd), (List.take_append_drop _ _).symm, by rw [List.length_drop]; omega⟩
  have HSL := Hid.mk hsl
  have HS2 := Hid.mk hs2
  have hs1 : s1.length ≤ ss.length := by rw [hsl]; simp
  have HS1 := Hid.mk hs1
  clear hdl hd0 hsl hs2 hs1 hD4
  go_upto_region 52 with fail
  go_quiet (fail)
  clear e1 e2
  have sD := HS.out.drewN nq
  generalize W.drewN nq = Wd at sD ⊢
  obtain ⟨w1, hw1⟩ : ∃ w1, w1 = Wd.alloc (.cells #[.int .i64 3, .int .i64 A, .int .i64 0, .int .i64 Bf, .int .i64 Cf, .slice none 0 0, .slice none 0 0, .slice none 0 0] 109) := ⟨_, rfl⟩
  have k1 : Keep Wd w1 := by rw [hw1]; exact (Keep.refl _).alloc _
  obtain ⟨gE, hgE⟩ : ∃ gE, gE = Wd.heap.size := ⟨_, rfl⟩
  have a1 : Arr w1 gE 109 [.int .i64 3, .int .i64 A, .int .i64 0, .int .i64 Bf, .int .i64 Cf, .slice none 0 0, .slice none 0 0, .slice none 0 0] := by rw [hw1, hgE]; exact Arr.new _ 109 _
  have bx : Bx B P w w1 gb gO gE cv xv sv pv nv cels es ss bad cu nx cf nf _ 109 _ := ⟨Fr.keep (sD.k.trans k1), sD.b.keep k1, sD.o.keep k1, sD.ne, a1, (fun q a e => by have := sD.b.low q a; omega), (fun a => by have := (sD.b.sp gE a).2.1; omega), (by have := sD.b.lo; have := sD.b.ar.lt; omega), (fun e => by have := sD.o.lt; omega)⟩
  rw [HSL.out] at bx
  have dq1 : Wd.cell? ⟨gO, 1, none⟩ = some (.int .i64 A) := sD.o.cell 1
  have dq2 : Wd.cell? ⟨gO, 2, none⟩ = some (.int .i64 Bf) := sD.o.cell 2
  have dq3 : Wd.cell? ⟨gO, 3, none⟩ = some (.int .i64 Cf) := sD.o.cell 3
  have hkk := HK.out
  unfold BdK at hkk
  have hk2 := HK2.out
  have hsl := HSL.out
  have hlen : (s1 ++ s2).length ≤ 80000 := by rw [← hsl]; omega
  have HBX := Hid.mk bx
  have HT := Hid.mk (takeStmts_c bx.b (by omega))
  rw [HS2.out] at HT
  have HLN := Hid.mk hlen
  clear bx sD k1 a1 hkk hk2 hsl hlen c1 c2 q0 q1 q2 q3 q4
  go_upto_region 54 with fail
  rw [← hgE, ← hw1]
  clear hgE hw1 dq1 dq2 dq3
  have o4 : w1.cell? ⟨gO, 4, none⟩ = some (.int .i64 (dd : Int)) := HBX.out.o.cell 4
  go_wp2_with fail
  refine HT.out.mono ?_
  intro e1 w2 ht
  obtain ⟨sv1, ua, uc, he, bx2, rr, sl, kp⟩ := HBX.out.took ht
  rw [HS2.out] at he
  subst he
  have z6 : w2.cell? ⟨gE, 6, none⟩ = some (.slice none 0 0) := bx2.x.cell 6
  have z6f := bx2.x.frozen 6
  have HB2 := Hid.mk bx2
  have HRR := Hid.mk rr
  have HSLW := Hid.mk sl
  clear ht o4 bx2 rr sl kp
  go_upto_region 55 with fail
  have bx3 := HB2.out.set 6 (.slice ua dd uc)
  have kp3 := HB2.out.kp 6 (.slice ua dd uc)
  have rr3 := (HRR.out.step kp3).step (KP.of (Keep.refl _).drew)
  have sl3 := (HSLW.out.step kp3).step (KP.of (Keep.refl _).drew)
  have hkk := HK.out
  unfold BdK at hkk
  have hk2 := HK2.out
  have hsl := HSL.out
  have hs2 := HS2.out
  have hs1 := HS1.out
  clear z6 z6f
  obtain ⟨xa9, xc9, hx9⟩ := OwnS.len bx3.b.os
  have bxD := bx3.drew
  rw [hx9] at bxD
  refine tq55_c (P := (fun q => P q ∨ (Value.slice ua s2.length uc).ownBlock = some q)) (gO := gO) (gE := gE) (A := 0) (Bf := 0) (Cf := 0) (D := 0) (Kf := 12) (focS (P := (fun q => P q ∨ (Value.slice ua s2.length uc).ownBlock = some q)) (cv := cv) (xv := xv) (pv := pv) (nv := nv) (cels := cels) (es := es) (bad := bad) (cu := cu) (nx := nx) (cf := cf) (nf := nf) bxD.b.lo) rfl bxD.b.ar bxD.b.r (by omega) rfl rfl (1 + (s2.map nsz).sum) ⟨⟨3, A, 0, Bf, Cf⟩, .slice none 0 0, .slice ua dd uc, .slice none 0 0, .nil, mkS s2, .nil, [], s2.map nsC, []⟩ bxD.x (fun e => bxD.xg gb (Or.inl rfl) e.symm) (fun e => bxD.xg gE (Or.inr (Or.inr (Or.inr (Or.inl e)))) rfl) (⟨⟨by simp [I64], HI.out.1, by simp [I64], HI.out.2.1, HI.out.2.2.1⟩, rows_nil _ _ 7, rfl, by rw [hs2] at rr3; rw [hs2]; exact rr3, sl3, rows_nil _ _ 8, rfl⟩) (by simp [nsz, mkS_size, SL.size]) ?_
  rintro vs2 w9 ⟨g, c, x, hnx, L⟩
  have F : BSt B gb (k + 1) w9 ∧ Fr (fun q => B ≤ q) w w9 := by
    obtain ⟨k1, k2, k3, k4, k5, k6⟩ := HK.out
    rw [hsl, List.map_append, List.sum_append] at k6
    exact bxD.finS k1 k2 (by omega) k4 k5 (by omega) hnx L
  generalize h9 : lay _ _ = a9
  have hdf : a9.defers = [] := by rw [← h9, lay_defers]
  clear h9
  go_wp2_with fail
  exact bodyPost_end (results_none rfl a9.tmps Try.prog w9) hdf ⟨rfl, F⟩
end Go.Proofs.Qxb6500772a
