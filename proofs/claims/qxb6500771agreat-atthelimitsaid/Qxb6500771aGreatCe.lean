/- cipherm: Camellia's key schedule for 16 octets. -/
import Derived.Test.Qxb6500771aGreatRj
import Derived.Test.Qxb6500771aGreatRk
namespace Go.Proofs.Qxb6500771aGreat
open Go.RowKit Go.Qm
set_option linter.unusedVariables false
set_option linter.unusedSimpArgs false
attribute [local go_sem ↓] Go.wp_at_zero Go.wp_at_succ

theorem fld0 (x y : Int) (W : World) : Sem.run Tryz.prog (Instr.field 168 (Value.agg #[.int .u64 x, .int .u64 y]) 0) W = .ok (.int .u64 x) W := by
  unfold Instr.field
  simp [go_sem, Tryz.underlying168, part, asAgg]
theorem fld1 (x y : Int) (W : World) : Sem.run Tryz.prog (Instr.field 168 (Value.agg #[.int .u64 x, .int .u64 y]) 1) W = .ok (.int .u64 y) W := by
  unfold Instr.field
  simp [go_sem, Tryz.underlying168, part, asAgg]
theorem list_fn (l : List Value) (n : Nat) (h : l.length = n) : l = (List.range n).map (fun i => l.getD i undef) := by
  apply List.ext_getElem (by simp [h])
  intro i h1 h2
  simp [h1]
theorem results_cell_row3 {P : Program} {fn : Func} {p q r : Tmp} {ty : TypeId} (h : fn.results = #[.cell p ty, .tmp q, .tmp r]) (tmps : Array Value) (w : World) (g : Nat) (t : TypeId) (cs : Array Value) (fr : Nat × Nat) (d : TypeDesc) (v u : Value) (hv : tmps.getD q undef = v) (hu' : tmps.getD r undef = u)
    (hp : tmps.getD p undef = .pointer (some ⟨g, 0, none⟩)) (hg : w.heap[g]? = some (.cells cs t fr))
    (hu : P.underlying ty = some d) (hd : (match d with | .struct _ | .array _ _ => true | _ => false) = true) (hi : (P.info? ty).map (·.size) = some cs.size) :
    (results fn tmps).run P w = .ok (.tuple #[.agg cs, v, u]) w := by
  have hp' : tmps[p]?.getD undef = .pointer (some ⟨g, 0, none⟩) := by simpa using hp
  have hv' : tmps[q]?.getD undef = v := by simpa using hv
  have hu2 : tmps[r]?.getD undef = u := by simpa using hu'
  simp [results, h, hp', hv', hu2, asAddr, run_loadVar_row w g t ty cs fr d hg hu hd hi]
attribute [local go_sem] fld0 fld1
theorem _root_.Go.Qm.Arr.apart {w : World} {g g2 : Nat} {t : TypeId} {cs : List Value} (h : Arr w g t cs) (hne : g2 ≠ g) (i : Nat) (u : Value) : Arr (w.setCell ⟨g2, i, none⟩ u) g t cs := h.kept (grown_set (grown_refl w _) i u) (Ne.symm hne)
theorem _root_.Go.Qm.Arr.set4 {w : World} {g g2 : Nat} {t : TypeId} {cs : List Value} (h : Arr w g t cs) (hne : g2 ≠ g) (u0 u1 u2 u3 : Value) : Arr ((((w.setCell ⟨g2, 0, none⟩ u0).setCell ⟨g2, 1, none⟩ u1).setCell ⟨g2, 2, none⟩ u2).setCell ⟨g2, 3, none⟩ u3) g t cs :=
  (((h.apart hne 0 u0).apart hne 1 u1).apart hne 2 u2).apart hne 3 u3
set_option maxRecDepth 6000 in
set_option maxHeartbeats 8000000 in
theorem camKeys16_c (v : Value) (key : List UInt8) (w : World) (h : Bs w v key) (hl : key.length = 16) : Calls Tryz.prog 115 #[v] w fun e w' => ∃ v1 v2, e = .returned (.tuple #[.agg ((kw16 (klOf key) (0, 0) (kaOf (klOf key) (0, 0)) (0, 0)).map u64v).toArray, v1, v2]) ∧ Own w.heap.size 29 w' v1 ((k16 (klOf key) (0, 0) (kaOf (klOf key) (0, 0)) (0, 0)).map u64v) ∧ Own w.heap.size 29 w' v2 ((ke16 (klOf key) (0, 0) (kaOf (klOf key) (0, 0)) (0, 0)).map u64v) ∧ Keep w w' := by
  obtain ⟨a, c, rfl, hac, hcm, -⟩ := h.form
  unfold maxLen at hcm
  rw [hl] at h ⊢
  have hc16 : 16 ≤ c := by omega
  have P0 := h.part (i := 0) (j := 8) (by omega) (by omega) a (fun _ => by cases a <;> simp [Addr.add])
  have P1 := h.part (i := 8) (j := 16) (by omega) (by omega) (a.map (·.add 8)) (fun _ => rfl)
  have L0 : ((key.drop 0).take (8 - 0)).length ≤ 8 := by rw [List.length_take]; omega
  have L1 : ((key.drop 8).take (16 - 8)).length ≤ 8 := by rw [List.length_take]; omega
  have N0 := fun W (hk : Keep w W) => number_c _ _ W (P0.keep hk) L0
  have N1 := fun W (hk : Keep w W) => number_c _ _ W (P1.keep hk) L1
  have EL : klOf key = (((num ((key.drop 0).take (8 - 0)) : Nat) : Int), ((num ((key.drop 8).take (16 - 8)) : Nat) : Int)) := rfl
  rw [EL]
  clear EL
  generalize ((num ((key.drop 0).take (8 - 0)) : Nat) : Int) = a1 at *
  generalize ((num ((key.drop 8).take (16 - 8)) : Nat) : Int) = a2 at *
  clear P0 P1 L0 L1 h hl hac
  have i1 : (8 : Int) ≤ c := by omega
  have i2 : (16 : Int) ≤ c := by omega
  have i3 : ¬ c = 0 := by omega
  have i4 : ¬ c = 8 := by omega
  have A2 := Arr.new w 145 [Value.int .u64 0, .int .u64 0, .int .u64 0, .int .u64 0]
  have K2 := (Keep.refl w).alloc (.cells #[Value.int .u64 0, .int .u64 0, .int .u64 0, .int .u64 0] 145)
  go_enter Tryz.func115, Tryz.ntmps115
  go_upto_region 1 with (refine wpList_alloc_z (by rfl) 145 (by rfl) [Value.int .u64 0, .int .u64 0, .int .u64 0, .int .u64 0] z87 ?_)
  obtain ⟨w1, hw1⟩ : ∃ w1, w1 = w.alloc (.cells #[Value.int .u64 0, .int .u64 0, .int .u64 0, .int .u64 0] 145) := ⟨_, rfl⟩
  rw [← hw1] at A2 K2
  try rw [← hw1]
  clear hw1
  go_cut [5] from 11 to 17 (fun pv wx => ∃ g, pv = .pointer (some ⟨g, 0, none⟩) ∧ w1.heap.size ≤ g ∧ Arr wx g 168 [.int .u64 a1, .int .u64 a2] ∧ Keep w1 wx)
  case first => as_aux_lemma =>
    have K2d := K2.drew
    go_region_held3 (fun _ => True) (trivial)
      (first
      | (go_at_call_of 74 (Value.slice a 8 c); refine (N0 _ ?_).mono ?_; (first | (with_reducible exact K2.drew) | (with_reducible exact (K2.alloc _).drew)); rintro e y1 ⟨rfl, q1⟩; have Q1 : Keep w1 y1 := (by first | (with_reducible exact (Keep.refl w1).drew.trans q1) | (with_reducible exact ((Keep.refl w1).alloc _).drew.trans q1)); (first | (have NA : Arr y1 w1.heap.size 168 [.int .u64 0, .int .u64 0] := Arr.keep (Arr.new w1 168 [.int .u64 0, .int .u64 0]) (by with_reducible exact (Keep.refl _).drew.trans q1)) | skip))
      | (go_at_call 74; refine (N1 _ ?_).mono ?_; (first | (with_reducible exact K2.trans Q1) | (with_reducible exact (K2.trans Q1).alloc _)); rintro e y2 ⟨rfl, q2⟩; have Q2 : Keep w1 y2 := (by first | (with_reducible exact Q1.trans q2) | (with_reducible exact (Q1.alloc _).trans q2)); (first | (have NB : Arr y2 w1.heap.size 168 [.int .u64 0, .int .u64 0] := NA.keep q2; have hQ : w1.heap.size ≤ w1.heap.size := Nat.le_refl _; have t0 := NB.cell 0; have t1 := NB.cell 1; simp only [List.getElem?_cons_zero, List.getElem?_cons_succ] at t0 t1; have u0 := NB.frozen 0; have u1 := NB.frozen 1) | (have NB : Arr y2 y1.heap.size 168 [.int .u64 0, .int .u64 0] := Arr.keep (Arr.new y1 168 [.int .u64 0, .int .u64 0]) (by with_reducible exact q2); have hQ : w1.heap.size ≤ y1.heap.size := Q1.size; have t0 := NB.cell 0; have t1 := NB.cell 1; simp only [List.getElem?_cons_zero, List.getElem?_cons_succ] at t0 t1; have u0 := NB.frozen 0; have u1 := NB.frozen 1) | skip)))
    all_goals
      go_wp2_with fail
      go_meet
      case rel =>
        first
        | exact ⟨_, rfl, hQ, (NB.set 0 (.int .u64 a1)).set 1 (.int .u64 a2), (Q2.setCell hQ _).setCell hQ _⟩
        | exact ⟨_, rfl, Q2.size, Arr.new y2 168 [.int .u64 a1, .int .u64 a2], Q2.alloc _⟩
  case rest => as_aux_lemma =>
    obtain ⟨g5, rfl, hg5, A5, k3⟩ := hcut
    have K3 := K2.trans k3
    have A2' := A2.keep k3
    have l2 := A2.lt
    have n25 : w.heap.size ≠ g5 := by have := K2.size; have := A2.lt; omega
    clear N0 N1 A2 i1 i2 i3 i4 hcm hc16
    obtain ⟨p1, hp1⟩ : ∃ x, x = bits .xor .u64 a1 0 := ⟨_, rfl⟩
    obtain ⟨p2, hp2⟩ : ∃ x, x = bits .xor .u64 a2 0 := ⟨_, rfl⟩
    have F0 := fun W => camF_c p1 11573800789038895243 W
    obtain ⟨f1, hf1⟩ : ∃ x, x = cF p1 11573800789038895243 := ⟨_, rfl⟩
    rw [← hf1] at F0
    obtain ⟨p3, hp3⟩ : ∃ x, x = bits .xor .u64 p2 f1 := ⟨_, rfl⟩
    have F1 := fun W => camF_c p3 13149077528002589618 W
    obtain ⟨f2, hf2⟩ : ∃ x, x = cF p3 13149077528002589618 := ⟨_, rfl⟩
    rw [← hf2] at F1
    obtain ⟨p4, hp4⟩ : ∃ x, x = bits .xor .u64 p1 f2 := ⟨_, rfl⟩
    obtain ⟨p5, hp5⟩ : ∃ x, x = bits .xor .u64 p4 a1 := ⟨_, rfl⟩
    obtain ⟨p6, hp6⟩ : ∃ x, x = bits .xor .u64 p3 a2 := ⟨_, rfl⟩
    have F2 := fun W => camF_c p5 14334736817860870846 W
    obtain ⟨f3, hf3⟩ : ∃ x, x = cF p5 14334736817860870846 := ⟨_, rfl⟩
    rw [← hf3] at F2
    obtain ⟨p7, hp7⟩ : ∃ x, x = bits .xor .u64 p6 f3 := ⟨_, rfl⟩
    have F3 := fun W => camF_c p7 6124705990439038748 W
    obtain ⟨f4, hf4⟩ : ∃ x, x = cF p7 6124705990439038748 := ⟨_, rfl⟩
    rw [← hf4] at F3
    obtain ⟨p8, hp8⟩ : ∃ x, x = bits .xor .u64 p5 f4 := ⟨_, rfl⟩
    obtain ⟨p9, hp9⟩ : ∃ x, x = bits .xor .u64 p8 0 := ⟨_, rfl⟩
    obtain ⟨p10, hp10⟩ : ∃ x, x = bits .xor .u64 p7 0 := ⟨_, rfl⟩
    have F4 := fun W => camF_c p9 1217423232700263709 W
    obtain ⟨f5, hf5⟩ : ∃ x, x = cF p9 1217423232700263709 := ⟨_, rfl⟩
    rw [← hf5] at F4
    obtain ⟨p11, hp11⟩ : ∃ x, x = bits .xor .u64 p10 f5 := ⟨_, rfl⟩
    have F5 := fun W => camF_c p11 12706493768495710717 W
    obtain ⟨f6, hf6⟩ : ∃ x, x = cF p11 12706493768495710717 := ⟨_, rfl⟩
    rw [← hf6] at F5
    obtain ⟨p12, hp12⟩ : ∃ x, x = bits .xor .u64 p9 f6 := ⟨_, rfl⟩
    have HKA : Hid (kaOf (a1, a2) (0, 0) = (p8, p7)) := Hid.mk (by unfold kaOf x64; simp only [hp1, hp2, hf1, hp3, hf2, hp4, hp5, hp6, hf3, hp7, hf4, hp8])
    replace hp1 := hp1.symm
    replace hp2 := hp2.symm
    clear hf1
    replace hp3 := hp3.symm
    clear hf2
    replace hp4 := hp4.symm
    replace hp5 := hp5.symm
    replace hp6 := hp6.symm
    clear hf3
    replace hp7 := hp7.symm
    clear hf4
    replace hp8 := hp8.symm
    replace hp9 := hp9.symm
    replace hp10 := hp10.symm
    clear hf5
    replace hp11 := hp11.symm
    clear hf6
    replace hp12 := hp12.symm
    have c50 := A5.cell 0
    have c51 := A5.cell 1
    simp only [List.getElem?_cons_zero, List.getElem?_cons_succ] at c50 c51
    go_upto_region 5 with fail
    obtain ⟨w4, hw4⟩ : ∃ w4, w4 = wc.alloc (.cells #[.int .u64 0, .int .u64 0] 168) := ⟨_, rfl⟩
    have A6 := Arr.new wc 168 [.int .u64 0, .int .u64 0]
    have k4 := (Keep.refl wc).alloc (.cells #[.int .u64 0, .int .u64 0] 168)
    rw [← hw4] at k4
    replace A6 : Arr w4 wc.heap.size 168 [.int .u64 0, .int .u64 0] := by rw [hw4]; exact A6
    try rw [← hw4]
    clear hw4
    have d50 := k4.cell c50
    have d51 := k4.cell c51
    have d60 := A6.cell 0
    have d61 := A6.cell 1
    simp only [List.getElem?_cons_zero, List.getElem?_cons_succ] at d60 d61
    generalize hg6 : wc.heap.size = g6 at *
    have hg6' : wc.heap.size ≤ g6 := by omega
    clear c50 c51
    go_quiet (fail)
    have k5 := (Keep.refl w4).drewN nq
    generalize w4.drewN nq = w5 at *
    go_wp2_with fail
    refine (F0 _).mono ?_
    rintro e w6 ⟨rfl, k6⟩
    go_wp2_with fail
    refine (F1 _).mono ?_
    rintro e w7 ⟨rfl, k7⟩
    have k57 := (k5.trans k6).trans k7
    have q50 := k57.cell d50
    have q51 := k57.cell d51
    go_wp2_with fail
    refine (F2 _).mono ?_
    rintro e w8 ⟨rfl, k8⟩
    clear q50 q51
    go_wp2_with fail
    refine (F3 _).mono ?_
    rintro e w9 ⟨rfl, k9⟩
    have k59 := (k57.trans k8).trans k9
    have k10 := k59.alloc (.cells #[.int .u64 p8, .int .u64 p7] 168)
    have A9 := Arr.new w9 168 [.int .u64 p8, .int .u64 p7]
    go_upto_region 13 with fail
    obtain ⟨w10, hw10⟩ : ∃ x, x = w9.alloc (.cells #[.int .u64 p8, .int .u64 p7] 168) := ⟨_, rfl⟩
    replace A9 : Arr w10 w9.heap.size 168 [.int .u64 p8, .int .u64 p7] := by rw [hw10]; exact A9
    rw [← hw10] at k10
    try rw [← hw10]
    clear hw10
    have n9 := k59.size
    have n4 := k4.size
    have n3 := k3.size
    have l5 := A5.lt
    have l6 := A6.lt
    generalize hg9 : w9.heap.size = g9 at *
    have q60 := k10.cell d60
    have q61 := k10.cell d61
    have q90 := A9.cell 0
    have q91 := A9.cell 1
    simp only [List.getElem?_cons_zero, List.getElem?_cons_succ] at q90 q91
    go_quiet (fail)
    have k11 := (Keep.refl w10).drewN nq
    generalize w10.drewN nq = w11 at *
    clear q60 q61 q90 q91
    go_wp2_with fail
    refine (F4 _).mono ?_
    rintro e w12 ⟨rfl, k12⟩
    go_wp2_with fail
    refine (F5 _).mono ?_
    rintro e w13 ⟨rfl, k13⟩
    have k14 := ((k11.trans k12).trans k13).alloc (.cells #[.int .u64 p12, .int .u64 p11] 168)
    have A10 := Arr.new w13 168 [.int .u64 p12, .int .u64 p11]
    go_upto_region 18 with fail
    obtain ⟨w14, hw14⟩ : ∃ x, x = w13.alloc (.cells #[.int .u64 p12, .int .u64 p11] 168) := ⟨_, rfl⟩
    replace A10 : Arr w14 w13.heap.size 168 [.int .u64 p12, .int .u64 p11] := by rw [hw14]; exact A10
    rw [← hw14] at k14
    try rw [← hw14]
    clear hw14
    have n13 := ((k11.trans k12).trans k13).size
    generalize hg10 : w13.heap.size = g10 at *
    have K14 := (((K3.trans k4).trans k10).trans k14)
    have B5 := ((A5.keep k4).keep k10).keep k14
    have B9 := A9.keep k14
    have B2 := (((A2'.keep k4).keep k10).keep k14)
    have n29 : w.heap.size ≠ g9 := by omega
    clear k14 k10 k4 k3 k5 k6 k7 k8 k9 k57 k59 k11 k12 k13 A5 A6 A9 A10 A2' d50 d51 d60 d61 F0 F1 F2 F3 F4 F5 n13 n9 n4 n3 l5 l6 hg10 hg9 hg6 hg6' K2 K3 hg5
    clear hp1
    clear hp2
    clear hp3
    clear hp4
    clear hp5
    clear hp6
    clear hp7
    clear hp8
    clear hp9
    clear hp10
    clear hp11
    clear hp12
    have Tka111 : ∀ W, Calls Tryz.prog 132 #[.agg #[.int .u64 p8, .int .u64 p7], .int .u64 111] W fun e w' => e = .returned (.agg #[.int .u64 (tN (p8, p7) 111).1, .int .u64 (tN (p8, p7) 111).2]) ∧ Keep W w' := fun W => turn_c p8 p7 111 W (by omega)
    have Tkl15 : ∀ W, Calls Tryz.prog 132 #[.agg #[.int .u64 a1, .int .u64 a2], .int .u64 15] W fun e w' => e = .returned (.agg #[.int .u64 (tN (a1, a2) 15).1, .int .u64 (tN (a1, a2) 15).2]) ∧ Keep W w' := fun W => turn_c a1 a2 15 W (by omega)
    have Tka15 : ∀ W, Calls Tryz.prog 132 #[.agg #[.int .u64 p8, .int .u64 p7], .int .u64 15] W fun e w' => e = .returned (.agg #[.int .u64 (tN (p8, p7) 15).1, .int .u64 (tN (p8, p7) 15).2]) ∧ Keep W w' := fun W => turn_c p8 p7 15 W (by omega)
    have Tkl45 : ∀ W, Calls Tryz.prog 132 #[.agg #[.int .u64 a1, .int .u64 a2], .int .u64 45] W fun e w' => e = .returned (.agg #[.int .u64 (tN (a1, a2) 45).1, .int .u64 (tN (a1, a2) 45).2]) ∧ Keep W w' := fun W => turn_c a1 a2 45 W (by omega)
    have Tka45 : ∀ W, Calls Tryz.prog 132 #[.agg #[.int .u64 p8, .int .u64 p7], .int .u64 45] W fun e w' => e = .returned (.agg #[.int .u64 (tN (p8, p7) 45).1, .int .u64 (tN (p8, p7) 45).2]) ∧ Keep W w' := fun W => turn_c p8 p7 45 W (by omega)
    have Tkl60 : ∀ W, Calls Tryz.prog 132 #[.agg #[.int .u64 a1, .int .u64 a2], .int .u64 60] W fun e w' => e = .returned (.agg #[.int .u64 (tN (a1, a2) 60).1, .int .u64 (tN (a1, a2) 60).2]) ∧ Keep W w' := fun W => turn_c a1 a2 60 W (by omega)
    have Tka60 : ∀ W, Calls Tryz.prog 132 #[.agg #[.int .u64 p8, .int .u64 p7], .int .u64 60] W fun e w' => e = .returned (.agg #[.int .u64 (tN (p8, p7) 60).1, .int .u64 (tN (p8, p7) 60).2]) ∧ Keep W w' := fun W => turn_c p8 p7 60 W (by omega)
    have Tkl94 : ∀ W, Calls Tryz.prog 132 #[.agg #[.int .u64 a1, .int .u64 a2], .int .u64 94] W fun e w' => e = .returned (.agg #[.int .u64 (tN (a1, a2) 94).1, .int .u64 (tN (a1, a2) 94).2]) ∧ Keep W w' := fun W => turn_c a1 a2 94 W (by omega)
    have Tka94 : ∀ W, Calls Tryz.prog 132 #[.agg #[.int .u64 p8, .int .u64 p7], .int .u64 94] W fun e w' => e = .returned (.agg #[.int .u64 (tN (p8, p7) 94).1, .int .u64 (tN (p8, p7) 94).2]) ∧ Keep W w' := fun W => turn_c p8 p7 94 W (by omega)
    have Tkl111 : ∀ W, Calls Tryz.prog 132 #[.agg #[.int .u64 a1, .int .u64 a2], .int .u64 111] W fun e w' => e = .returned (.agg #[.int .u64 (tN (a1, a2) 111).1, .int .u64 (tN (a1, a2) 111).2]) ∧ Keep W w' := fun W => turn_c a1 a2 111 W (by omega)
    have Tka30 : ∀ W, Calls Tryz.prog 132 #[.agg #[.int .u64 p8, .int .u64 p7], .int .u64 30] W fun e w' => e = .returned (.agg #[.int .u64 (tN (p8, p7) 30).1, .int .u64 (tN (p8, p7) 30).2]) ∧ Keep W w' := fun W => turn_c p8 p7 30 W (by omega)
    have Tkl77 : ∀ W, Calls Tryz.prog 132 #[.agg #[.int .u64 a1, .int .u64 a2], .int .u64 77] W fun e w' => e = .returned (.agg #[.int .u64 (tN (a1, a2) 77).1, .int .u64 (tN (a1, a2) 77).2]) ∧ Keep W w' := fun W => turn_c a1 a2 77 W (by omega)
    obtain ⟨a111x, ha111x⟩ : ∃ x, x = (tN (p8, p7) 111).1 := ⟨_, rfl⟩
    obtain ⟨a111y, ha111y⟩ : ∃ x, x = (tN (p8, p7) 111).2 := ⟨_, rfl⟩
    rw [← ha111x, ← ha111y] at Tka111
    obtain ⟨l15x, hl15x⟩ : ∃ x, x = (tN (a1, a2) 15).1 := ⟨_, rfl⟩
    obtain ⟨l15y, hl15y⟩ : ∃ x, x = (tN (a1, a2) 15).2 := ⟨_, rfl⟩
    rw [← hl15x, ← hl15y] at Tkl15
    obtain ⟨a15x, ha15x⟩ : ∃ x, x = (tN (p8, p7) 15).1 := ⟨_, rfl⟩
    obtain ⟨a15y, ha15y⟩ : ∃ x, x = (tN (p8, p7) 15).2 := ⟨_, rfl⟩
    rw [← ha15x, ← ha15y] at Tka15
    obtain ⟨l45x, hl45x⟩ : ∃ x, x = (tN (a1, a2) 45).1 := ⟨_, rfl⟩
    obtain ⟨l45y, hl45y⟩ : ∃ x, x = (tN (a1, a2) 45).2 := ⟨_, rfl⟩
    rw [← hl45x, ← hl45y] at Tkl45
    obtain ⟨a45x, ha45x⟩ : ∃ x, x = (tN (p8, p7) 45).1 := ⟨_, rfl⟩
    obtain ⟨a45y, ha45y⟩ : ∃ x, x = (tN (p8, p7) 45).2 := ⟨_, rfl⟩
    rw [← ha45x, ← ha45y] at Tka45
    obtain ⟨l60x, hl60x⟩ : ∃ x, x = (tN (a1, a2) 60).1 := ⟨_, rfl⟩
    obtain ⟨l60y, hl60y⟩ : ∃ x, x = (tN (a1, a2) 60).2 := ⟨_, rfl⟩
    rw [← hl60x, ← hl60y] at Tkl60
    obtain ⟨a60x, ha60x⟩ : ∃ x, x = (tN (p8, p7) 60).1 := ⟨_, rfl⟩
    obtain ⟨a60y, ha60y⟩ : ∃ x, x = (tN (p8, p7) 60).2 := ⟨_, rfl⟩
    rw [← ha60x, ← ha60y] at Tka60
    obtain ⟨l94x, hl94x⟩ : ∃ x, x = (tN (a1, a2) 94).1 := ⟨_, rfl⟩
    obtain ⟨l94y, hl94y⟩ : ∃ x, x = (tN (a1, a2) 94).2 := ⟨_, rfl⟩
    rw [← hl94x, ← hl94y] at Tkl94
    obtain ⟨a94x, ha94x⟩ : ∃ x, x = (tN (p8, p7) 94).1 := ⟨_, rfl⟩
    obtain ⟨a94y, ha94y⟩ : ∃ x, x = (tN (p8, p7) 94).2 := ⟨_, rfl⟩
    rw [← ha94x, ← ha94y] at Tka94
    obtain ⟨l111x, hl111x⟩ : ∃ x, x = (tN (a1, a2) 111).1 := ⟨_, rfl⟩
    obtain ⟨l111y, hl111y⟩ : ∃ x, x = (tN (a1, a2) 111).2 := ⟨_, rfl⟩
    rw [← hl111x, ← hl111y] at Tkl111
    obtain ⟨a30x, ha30x⟩ : ∃ x, x = (tN (p8, p7) 30).1 := ⟨_, rfl⟩
    obtain ⟨a30y, ha30y⟩ : ∃ x, x = (tN (p8, p7) 30).2 := ⟨_, rfl⟩
    rw [← ha30x, ← ha30y] at Tka30
    obtain ⟨l77x, hl77x⟩ : ∃ x, x = (tN (a1, a2) 77).1 := ⟨_, rfl⟩
    obtain ⟨l77y, hl77y⟩ : ∃ x, x = (tN (a1, a2) 77).2 := ⟨_, rfl⟩
    rw [← hl77x, ← hl77y] at Tkl77
    have Hkw16 : Hid ((kw16 (a1, a2) (0, 0) (kaOf (a1, a2) (0, 0)) (0, 0)).map u64v = [.int .u64 a1, .int .u64 a2, .int .u64 a111x, .int .u64 a111y]) := Hid.mk (by rw [HKA.out]; unfold kw16 u64v; simp only [List.map_cons, List.map_nil, ha111x, ha111y])
    have Hk16 : Hid ((k16 (a1, a2) (0, 0) (kaOf (a1, a2) (0, 0)) (0, 0)).map u64v = [.int .u64 p8, .int .u64 p7, .int .u64 l15x, .int .u64 l15y, .int .u64 a15x, .int .u64 a15y, .int .u64 l45x, .int .u64 l45y, .int .u64 a45x, .int .u64 l60y, .int .u64 a60x, .int .u64 a60y, .int .u64 l94x, .int .u64 l94y, .int .u64 a94x, .int .u64 a94y, .int .u64 l111x, .int .u64 l111y]) := Hid.mk (by rw [HKA.out]; unfold k16 u64v; simp only [List.map_cons, List.map_nil, hl15x, hl15y, ha15x, ha15y, hl45x, hl45y, ha45x, hl60y, ha60x, ha60y, hl94x, hl94y, ha94x, ha94y, hl111x, hl111y])
    have Hke16 : Hid ((ke16 (a1, a2) (0, 0) (kaOf (a1, a2) (0, 0)) (0, 0)).map u64v = [.int .u64 a30x, .int .u64 a30y, .int .u64 l77x, .int .u64 l77y]) := Hid.mk (by rw [HKA.out]; unfold ke16 u64v; simp only [List.map_cons, List.map_nil, ha30x, ha30y, hl77x, hl77y])
    clear ha111x ha111y hl15x hl15y ha15x ha15y hl45x hl45y ha45x ha45y hl60x hl60y ha60x ha60y hl94x hl94y ha94x ha94y hl111x hl111y ha30x ha30y hl77x hl77y
    have ALL : ∀ W, Keep w14 W → W.cell? ⟨g5, 0, none⟩ = some (.int .u64 a1) ∧ W.cell? ⟨g5, 1, none⟩ = some (.int .u64 a2) ∧ W.cell? ⟨g9, 0, none⟩ = some (.int .u64 p8) ∧ W.cell? ⟨g9, 1, none⟩ = some (.int .u64 p7) :=
      fun W hk => ⟨(B5.keep hk).cell 0, (B5.keep hk).cell 1, (B9.keep hk).cell 0, (B9.keep hk).cell 1⟩
    generalize hg2 : w.heap.size = g2 at *
    have hle : w.heap.size ≤ g2 := by omega
    have ALL4 : ∀ W u0 u1 u2 u3, Keep w14 W → ((((W.setCell ⟨g2, 0, none⟩ u0).setCell ⟨g2, 1, none⟩ u1).setCell ⟨g2, 2, none⟩ u2).setCell ⟨g2, 3, none⟩ u3).cell? ⟨g5, 0, none⟩ = some (.int .u64 a1) ∧ ((((W.setCell ⟨g2, 0, none⟩ u0).setCell ⟨g2, 1, none⟩ u1).setCell ⟨g2, 2, none⟩ u2).setCell ⟨g2, 3, none⟩ u3).cell? ⟨g5, 1, none⟩ = some (.int .u64 a2) ∧ ((((W.setCell ⟨g2, 0, none⟩ u0).setCell ⟨g2, 1, none⟩ u1).setCell ⟨g2, 2, none⟩ u2).setCell ⟨g2, 3, none⟩ u3).cell? ⟨g9, 0, none⟩ = some (.int .u64 p8) ∧ ((((W.setCell ⟨g2, 0, none⟩ u0).setCell ⟨g2, 1, none⟩ u1).setCell ⟨g2, 2, none⟩ u2).setCell ⟨g2, 3, none⟩ u3).cell? ⟨g9, 1, none⟩ = some (.int .u64 p7) :=
      fun W u0 u1 u2 u3 hk => ⟨((B5.keep hk).set4 n25 u0 u1 u2 u3).cell 0, ((B5.keep hk).set4 n25 u0 u1 u2 u3).cell 1, ((B9.keep hk).set4 n29 u0 u1 u2 u3).cell 0, ((B9.keep hk).set4 n29 u0 u1 u2 u3).cell 1⟩
    go_cut [2] from 90 to 100 (fun pv wx => pv = .pointer (some ⟨g2, 0, none⟩) ∧ Arr wx g2 145 [.int .u64 a1, .int .u64 a2, .int .u64 a111x, .int .u64 a111y] ∧ Arr wx g5 168 [.int .u64 a1, .int .u64 a2] ∧ Arr wx g9 168 [.int .u64 p8, .int .u64 p7] ∧ Keep w wx)
    case first => as_aux_lemma =>
      have Q := (Keep.refl w14).drew
      go_region_held3 (fun W => W.cell? ⟨g5, 0, none⟩ = some (.int .u64 a1) ∧ W.cell? ⟨g5, 1, none⟩ = some (.int .u64 a2) ∧ W.cell? ⟨g9, 0, none⟩ = some (.int .u64 p8) ∧ W.cell? ⟨g9, 1, none⟩ = some (.int .u64 p7))
        (first | (refine ALL _ ?_; first | (with_reducible exact Q) | (with_reducible exact (Keep.refl _))) | (with_reducible exact ALL4 _ _ _ _ _ Q))
        ((go_at_call 132; (first | (with_reducible refine (Tka111 _).mono ?_)); rintro e y ⟨rfl, q⟩; have Q := Q.trans q; have NB := B2.keep Q; have t0 := NB.cell 0; have t1 := NB.cell 1; have t2 := NB.cell 2; have t3 := NB.cell 3; simp only [List.getElem?_cons_zero, List.getElem?_cons_succ] at t0 t1 t2 t3; have v0 := NB.frozen 0; have v1 := NB.frozen 1; have v2 := NB.frozen 2; have v3 := NB.frozen 3))
      go_wp2_with fail
      go_meet
      case rel =>
        exact ⟨rfl, (((NB.set 0 _).set 1 _).set 2 _).set 3 _, (B5.keep Q).set4 n25 _ _ _ _, (B9.keep Q).set4 n29 _ _ _ _, ((((K14.trans Q).setCell hle _).setCell hle _).setCell hle _).setCell hle _⟩
    case rest => as_aux_lemma =>
      clear ALL ALL4 B5 B9 B2 K14
      obtain ⟨rfl, B2, B5, B9, K15⟩ := hcut
      have ALL : ∀ W, Keep wc W → W.cell? ⟨g5, 0, none⟩ = some (.int .u64 a1) ∧ W.cell? ⟨g5, 1, none⟩ = some (.int .u64 a2) ∧ W.cell? ⟨g9, 0, none⟩ = some (.int .u64 p8) ∧ W.cell? ⟨g9, 1, none⟩ = some (.int .u64 p7) :=
        fun W hk => ⟨(B5.keep hk).cell 0, (B5.keep hk).cell 1, (B9.keep hk).cell 0, (B9.keep hk).cell 1⟩
      have hsz := K15.size
      have hl2 := B2.lt
      clear ALL
      go_upto_region 19 with fail
      show (Code.region 19 ops19 true).wp Tryz.prog _ _ _
      refine region19_c (g2 + 1) g5 g9 a1 a2 p8 p7 l15x l15y a15x a15y l45x l45y a45x a45y l60x l60y a60x a60y l94x l94y a94x a94y l111x l111y (by rfl) (by rfl) B5 (by rfl) B9 Tkl15 Tka15 Tkl45 Tka45 Tkl60 Tka60 Tkl94 Tka94 Tkl111 (by omega) ?_
      intro a w19 v3 hdf hsz9 ho hv O3 k19
      obtain ⟨m, hml, rfl⟩ := frame_ext hdf hsz9 (show 101 + 52 < 274 by omega) (by omega) ho hv
      clear hdf hsz9 ho hv
      obtain ⟨z, rfl⟩ : ∃ z : Nat → Value, m = [z 0, z 1, z 2, z 3, z 4, z 5, z 6, z 7, z 8, z 9, z 10, z 11, z 12, z 13, z 14, z 15, z 16, z 17, z 18, z 19, z 20, z 21, z 22, z 23, z 24, z 25, z 26, z 27, z 28, z 29, z 30, z 31, z 32, z 33, z 34, z 35, z 36, z 37, z 38, z 39, z 40, z 41, z 42, z 43, z 44, z 45, z 46, z 47, z 48, z 49, z 50, z 51, z 52] := ⟨fun i => m.getD i undef, list_fn m 53 hml⟩
      clear hml
      simp only [List.set_cons_succ, List.set_cons_zero, List.take_succ_cons, List.take_zero, List.drop_succ_cons, List.drop_zero, List.cons_append, List.nil_append]
      have C5 := B5.keep k19
      have C9 := B9.keep k19
      go_upto_region 20 with fail
      show (Code.region 20 ops20 true).wp Tryz.prog _ _ _
      refine region20_c (g2 + 1) g5 g9 a1 a2 p8 p7 a30x a30y l77x l77y (by rfl) (by rfl) C5 (by rfl) C9 Tka30 Tkl77 (by have := k19.size; omega) ?_
      intro a' w20 v4 hdf hsz9 ho hv O4 k20
      obtain ⟨m, hml, rfl⟩ := frame_ext hdf hsz9 (show 154 + 12 < 274 by omega) (by omega) ho hv
      clear hdf hsz9 ho hv
      obtain ⟨z', rfl⟩ : ∃ z : Nat → Value, m = [z 0, z 1, z 2, z 3, z 4, z 5, z 6, z 7, z 8, z 9, z 10, z 11, z 12] := ⟨fun i => m.getD i undef, list_fn m 13 hml⟩
      clear hml
      simp only [List.set_cons_succ, List.set_cons_zero, List.take_succ_cons, List.take_zero, List.drop_succ_cons, List.drop_zero, List.cons_append, List.nil_append]
      have D2 := (B2.keep k19).keep k20
      have O3' := O3.keep k20
      obtain ⟨KW, hKW⟩ : ∃ KW : List Value, KW = [.int .u64 a1, .int .u64 a2, .int .u64 a111x, .int .u64 a111y] := ⟨_, rfl⟩
      rw [← hKW] at D2
      have HKWl : Hid (KW.length = 4) := Hid.mk (by rw [hKW]; rfl)
      have HKWo : Hid (KW.toArray.all (·.oneCell') = true) := Hid.mk (by rw [hKW]; simp [Value.oneCell'])
      have HKW := Hid.mk hKW
      clear hKW
      go_wp2_with (first
        | (refine wpList_load_mid (by rfl) 145 (.tmp 2) (by rfl) g2 0 (by rfl) KW _ (fun j v hv => by rw [Nat.zero_add, D2.cell j]; exact hv) Tryz.underlying145 rfl (by rw [HKWl.out]; exact s87) ?_)
        | (refine wpList_store_row (by rfl) 145 (.tmp 2) (.tmp 167) (by rfl) g2 KW.toArray (by rfl) (by rfl) 145 _ D2 (by rw [List.size_toArray, HKWl.out]; exact s87) (by rfl) HKWo.out ?_))
      have SRK : ∀ (v : Value) (xs : List Value), Own (g2 + 1) 29 w20 v xs → Own w.heap.size 29 (w20.setRow g2 KW.toArray) v xs := by
        intro v xs hO
        refine (hO.mono (by omega)).kept (grown_setRow (grown_refl w20 _) _) ?_
        rcases hob : v.ownBlock with _ | q
        · exact Or.inl rfl
        · right
          have := (hO.lt q hob).1
          simp; omega
      have KF := ((K15.trans k19).trans k20).setRow hle KW.toArray
      refine bodyPost_ret (v := .tuple #[.agg KW.toArray, v3, v4]) (results_cell_row3 rfl _ _ g2 145 KW.toArray (0, 0) _ _ _ rfl rfl rfl (D2.row KW) Tryz.underlying145 rfl (by rw [List.size_toArray, HKWl.out]; exact s87)) rfl ⟨v3, v4, ?_, ?_, ?_, KF⟩
      · rw [Hkw16.out, HKW.out]
      · rw [Hk16.out]; exact SRK _ _ O3'
      · rw [Hke16.out]; exact SRK _ _ O4
end Go.Proofs.Qxb6500771aGreat
