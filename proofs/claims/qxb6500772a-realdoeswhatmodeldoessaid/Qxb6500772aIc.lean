/- blast: Inputs. -/
import Derived.Test.Qxb6500772aIb
import Derived.BigRegion
namespace Go.Proofs.Qxb6500772a
open Go.RowKit Go.Qm
set_option linter.unusedVariables false
set_option linter.unusedSimpArgs false
attribute [local go_sem ↓] Go.wp_at_zero Go.wp_at_succ
theorem inf4 : (Try.prog.info? 4).map (fun i => (i.zero, i.size, i.bytes)) = some (some (.bool false), 1, 1) := by kernel_rfl
theorem bset2 {l : List Bool} {b m : Nat} (hl : l.length = b) (hk : b < m) (x : Bool) : (l.map bval ++ List.replicate (m - b) (Value.bool false)).set b (.bool x) = (l ++ [x]).map bval ++ List.replicate (m - (b + 1)) (Value.bool false) := by
  rw [List.set_append_right _ _ (by simp [hl]), List.length_map, hl, Nat.sub_self, show m - b = (m - (b + 1)) + 1 by omega, List.replicate_succ, List.set_cons_zero, List.map_append, List.append_assoc]
  rfl
/-- A pin that names a bit of a state of N cells. -/
def PinOK (N : Nat) (p : PinV) : Prop := (p.1 = 0 ∨ p.1 = 1) ∧ (p.2.1 = -1 ∨ ∃ c : Nat, p.2.1 = c ∧ c < N ∧ p.2.2 < 64)
theorem sl_arr {w : World} {g : Nat} {t : TypeId} {l : List Bool} (h : Arr w g t (l.map bval)) (hl : l.length ≤ 1000000) : Sl w (.slice (some ⟨g, 0, none⟩) l.length l.length) (l.map bval) := by
  refine ⟨some ⟨g, 0, none⟩, l.length, by simp, by simp, by simp [maxLen]; omega, fun k u hu => ⟨g, 0, rfl, ?_⟩⟩
  rw [Nat.zero_add, h.cell, hu]
set_option maxRecDepth 4000 in
set_option maxHeartbeats 8000000 in
theorem ins_c {w : World} {gS B N : Nat} {pv : Value} {pl : List PinV} (c12 : w.cell? ⟨gS, 12, none⟩ = some pv) (hp : OwnS pinVC 3 67 B w pv pl) {sa ta : Option Addr} {sc tc : Nat} {cur next : PS} (hc : Vs w (.slice sa cur.cells.length sc) cur.cells) (hn : Vs w (.slice ta next.cells.length tc) next.cells) (h1 : cur.cells.length = N) (h2 : next.cells.length = N) (h3 : ∀ x ∈ cur.cells, x < 2 ^ 64) (h4 : ∀ x ∈ next.cells, x < 2 ^ 64) (hN : N ≤ 1000000) (hpl : ∀ p ∈ pl, PinOK N p) (hll : pl.length ≤ 100000) :
    Calls Try.prog 10 #[.pointer (some ⟨gS, 0, none⟩), .agg #[.slice sa cur.cells.length sc, .bool cur.fault], .agg #[.slice ta next.cells.length tc, .bool next.fault]] w fun e w' => ∃ a : Nat, e = .returned (.slice (some ⟨a, 0, none⟩) pl.length pl.length) ∧ Sl w' (.slice (some ⟨a, 0, none⟩) pl.length pl.length) ((pl.map (pinB cur next)).map bval) ∧ Keep w w' := by
  have hpd : ∃ pa pc, pv = .slice pa pl.length pc ∧ ∀ k (hk : k < pl.length), ∃ g, pa = some ⟨g, 0, none⟩ ∧ ∀ Z, Keep w Z → Z.cell? ⟨g, k * 3, none⟩ = some (.int .i64 ((pl[k].1 : Nat) : Int)) ∧ Z.cell? ⟨g, k * 3 + 1, none⟩ = some (.int .i64 pl[k].2.1) ∧ Z.cell? ⟨g, k * 3 + 2, none⟩ = some (.int .i64 ((pl[k].2.2 : Nat) : Int)) := by
    rcases hp.form with ⟨rfl, rfl⟩ | ⟨g, cap, cu, rfl, hB, hA, h5, h6, h7, h8⟩
    · exact ⟨none, 0, rfl, fun k hk => by simp at hk⟩
    · refine ⟨_, cap, rfl, fun k hk => ⟨g, rfl, fun Z kz => ?_⟩⟩
      have x0 := flat_take_get pinVC_len h8 k 0 hk (by omega)
      rw [Nat.add_zero] at x0
      exact ⟨((hA.keep kz).cell _).trans x0, ((hA.keep kz).cell _).trans (flat_take_get pinVC_len h8 k 1 hk (by omega)), ((hA.keep kz).cell _).trans (flat_take_get pinVC_len h8 k 2 hk (by omega))⟩
  obtain ⟨pa, pc, rfl, hpc⟩ := hpd
  have HPC := Hid.mk hpc
  have HPL := Hid.mk hpl
  have HC := Hid.mk hc
  have HN := Hid.mk hn
  have H3 := Hid.mk h3
  have H4 := Hid.mk h4
  have H1 := Hid.mk h1
  have H2 := Hid.mk h2
  have hmk := run_make1 (P := Try.prog) Try.underlying55 inf4 rfl (pl.length : Int) (pl.length : Int) (by omega) (by omega) (by omega) (by omega)
  simp only [Int.toNat_natCast] at hmk
  obtain ⟨W, hW⟩ : ∃ W, W = (w.alloc (.cells #[.slice sa cur.cells.length sc, .bool cur.fault] 37)).alloc (.cells #[.slice ta next.cells.length tc, .bool next.fault] 37) := ⟨_, rfl⟩
  have kW : Keep w W := by rw [hW]; exact ((Keep.refl w).alloc _).alloc _
  have a4 : Arr W w.heap.size 37 [.slice sa cur.cells.length sc, .bool cur.fault] := by rw [hW]; exact (Arr.new w 37 _).keep ((Keep.refl _).alloc _)
  have a5 : Arr W (w.heap.size + 1) 37 [.slice ta next.cells.length tc, .bool next.fault] := by
    have h9 := Arr.new (w.alloc (.cells #[.slice sa cur.cells.length sc, .bool cur.fault] 37)) 37 [.slice ta next.cells.length tc, .bool next.fault]
    rw [size_alloc1] at h9
    rw [hW]; exact h9
  have hmkw := hmk W
  obtain ⟨V, hV⟩ : ∃ V, V = W.alloc (.cells (rep pl.length (.bool false)) 4) := ⟨_, rfl⟩
  rw [← hV] at hmkw
  have kV : Keep W V := by rw [hV]; exact (Keep.refl W).alloc _
  have aI : Arr V W.heap.size 4 ([].map bval ++ List.replicate (pl.length - 0) (.bool false)) := by rw [hV, rep_eq]; exact Arr.new W 4 _
  have HKV := Hid.mk (kW.trans kV)
  have HA4 := Hid.mk (a4.keep kV)
  have HA5 := Hid.mk (a5.keep kV)
  have HAI := Hid.mk aI
  have HSZ : Hid (w.heap.size + 2 = W.heap.size ∧ W.heap.size < V.heap.size) := Hid.mk ⟨by rw [hW]; simp, aI.lt⟩
  have c12W := kW.cell c12
  have c12V := (kW.trans kV).cell c12
  have li : (pl.length : Int) ≤ 100000 := by omega
  generalize hcf : cur.fault = cf at *
  generalize hnf : next.fault = nf at *
  have HCF := Hid.mk hcf
  have HNF := Hid.mk hnf
  clear hmk kW kV a4 a5 aI hp hc hn h3 h4 hpl hcf hnf c12 hpc hV h1 h2
  go_enter Try.func10, Try.ntmps10
  go_upto_region 1 with fail
  rw [← hW]
  clear hW
  obtain ⟨g4, hg4⟩ : ∃ g4, g4 = w.heap.size := ⟨_, rfl⟩
  rw [← hg4] at HA4 HA5 HSZ ⊢
  obtain ⟨g5, hg5⟩ : ∃ g5, g5 = g4 + 1 := ⟨_, rfl⟩
  rw [← hg5] at HA5 ⊢
  have HG4 := Hid.mk hg4
  have HG5 := Hid.mk hg5
  clear hg4 hg5
  go_upto_region 2 with fail
  generalize W.heap.size = gI at *
  clear hmkw c12W
  go_wp2_with fail
  clear c12V
  go_loopg [22] pl.length (fun gk v22 wr => ∃ (k : Nat), k + gk = pl.length ∧ v22 = .int .i64 k ∧ Keep w wr ∧ V.heap.size ≤ wr.heap.size ∧ Arr wr gI 4 (((pl.take k).map (pinB cur next)).map bval ++ List.replicate (pl.length - k) (.bool false)) ∧ Arr wr g4 37 [.slice sa cur.cells.length sc, .bool cf] ∧ Arr wr g5 37 [.slice ta next.cells.length tc, .bool nf])
  case atStart => exact ⟨0, by omega, rfl, HKV.out, Nat.le_refl _, HAI.out, HA4.out, HA5.out⟩
  case round =>
    obtain ⟨k, hk, rfl, kp, zv, aI, a4, a5⟩ := hrel
    have HKK := Hid.mk hk
    have HKP := Hid.mk kp
    have HZV := Hid.mk zv
    have HAI := Hid.mk aI
    have HA4 := Hid.mk a4
    have HA5 := Hid.mk a5
    clear hk zv aI
    by_cases hlt : k < pl.length
    · have j1 : (k : Int) < pl.length := by omega
      have j2 : (0 : Int) ≤ k := by omega
      obtain ⟨pg, hpg, hcell⟩ := HPC.out k hlt
      subst hpg
      obtain ⟨c0, c1, c2⟩ := hcell wr kp
      have hok := HPL.out _ (List.getElem_mem hlt)
      have HTK : Hid ((pl.take (k + 1)).map (pinB cur next) = (pl.take k).map (pinB cur next) ++ [pinB cur next pl[k]]) := Hid.mk (by rw [List.take_succ_eq_append_getElem hlt, List.map_append]; rfl)
      have HTL : Hid (((pl.take k).map (pinB cur next)).length = k) := Hid.mk (by rw [List.length_map, List.length_take]; omega)
      generalize pl[k] = p at *
      obtain ⟨pr, pcell, pbit⟩ := p
      obtain ⟨hr, hcb⟩ := hok
      simp only at c0 c1 c2 hr hcb
      have HCB := Hid.mk hcb
      have x0 : wr.cell? ⟨g4, 0, none⟩ = some (.slice sa cur.cells.length sc) := a4.cell 0
      have x1 : wr.cell? ⟨g4, 1, none⟩ = some (.bool cf) := a4.cell 1
      have x2 : wr.cell? ⟨g5, 0, none⟩ = some (.slice ta next.cells.length tc) := a5.cell 0
      have x3 : wr.cell? ⟨g5, 1, none⟩ = some (.bool nf) := a5.cell 1
      clear hcell a4 a5 hcb kp
      rcases hr with rfl | rfl
      · go_upto_region 5 with fail
        obtain ⟨Y1, hY1⟩ : ∃ Y1, Y1 = wr.alloc (.cells #[.int .i64 0, .int .i64 pcell, .int .i64 ((pbit : Nat) : Int)] 67) := ⟨_, rfl⟩
        rw [← hY1]
        have k1 : Keep wr Y1 := by rw [hY1]; exact (Keep.refl wr).alloc _
        have aP1 : Arr Y1 wr.heap.size 67 [.int .i64 0, .int .i64 pcell, .int .i64 ((pbit : Nat) : Int)] := by rw [hY1]; exact Arr.new wr 67 _
        have sz1 : Y1.heap.size = wr.heap.size + 1 := by rw [hY1]; simp
        have x0 := k1.cell x0
        have x1 := k1.cell x1
        clear hY1 c0 c1 c2
        have HSZ1 := Hid.mk sz1
        clear sz1
        go_upto_region 6 with fail
        obtain ⟨Y2, hY2⟩ : ∃ Y2, Y2 = Y1.alloc (.cells #[.slice sa cur.cells.length sc, .bool cf] 37) := ⟨_, rfl⟩
        rw [← hY2]
        have k2 : Keep Y1 Y2 := by rw [hY2]; exact (Keep.refl Y1).alloc _
        have A9 : Arr Y2 Y1.heap.size 37 [.slice sa cur.cells.length sc, .bool cf] := by rw [hY2]; exact Arr.new Y1 37 _
        have A8 := aP1.keep k2
        have x2 := (k1.trans k2).cell x2
        have x3 := (k1.trans k2).cell x3
        have y0 : Y2.cell? ⟨wr.heap.size, 0, none⟩ = some (.int .i64 0) := A8.cell 0
        have e0 : Y2.cell? ⟨Y1.heap.size, 0, none⟩ = some (.slice sa cur.cells.length sc) := A9.cell 0
        have e1 : Y2.cell? ⟨Y1.heap.size, 1, none⟩ = some (.bool cf) := A9.cell 1
        have e2 := A9.frozen 0
        have e3 := A9.frozen 1
        clear hY2 x0 x1
        generalize hg10 : Y1.heap.size = g10 at *
        generalize hg9 : wr.heap.size = g9 at *
        have h910 : g9 < g10 ∧ gI < g9 := by have := HSZ1.out; have := HAI.out.lt; omega
        have HG9 : Hid (g9 = wr.heap.size) := Hid.mk hg9.symm
        have HG10 : Hid (g10 = Y1.heap.size) := Hid.mk hg10.symm
        clear hg10 hg9
        go_upto_region 8 with fail
        obtain ⟨Y, hY⟩ : ∃ Y, Y = Y2 := ⟨_, rfl⟩
        subst hY
        have kY : Keep wr Y := k1.trans k2
        have aY := A9
        have aP := A8
        clear y0 e0 e1 e2 e3 x2 x3
        have HKY := Hid.mk kY
        have y1 : Y.cell? ⟨g9, 1, none⟩ = some (.int .i64 pcell) := aP.cell 1
        have y2 : Y.cell? ⟨g9, 2, none⟩ = some (.int .i64 ((pbit : Nat) : Int)) := aP.cell 2
        have s0 : Y.cell? ⟨g10, 0, none⟩ = some (.slice sa cur.cells.length sc) := aY.cell 0
        have s1 : Y.cell? ⟨g10, 1, none⟩ = some (.bool cf) := aY.cell 1
        have aI := HAI.out.keep kY
        obtain ⟨u1, ci⟩ : ∃ u, Y.cell? ⟨gI, k, none⟩ = some u := ⟨_, (aI.cell k).trans (List.getElem?_eq_getElem (by have := HTL.out; simp only [List.length_append, List.length_map, List.length_replicate] at this ⊢; omega))⟩
        have fi := aI.frozen k
        have HAIY := Hid.mk aI
        have n1 : gI ≠ g9 := by omega
        have n2 : gI ≠ g10 := by omega
        clear A9 A8 kY aY aP aI h910 aP1 k1 k2
        rcases HCB.out with hcb | ⟨c, hcb, hcN, hb64⟩
        · subst hcb
          have HPB : Hid (pinB cur next (0, -1, pbit) = cf) := Hid.mk (by simp [pinB, HCF.out, HNF.out])
          go_wp2_with fail
          go_roundg (gk - 1)
          case measure => have := HKK.out; omega
          case rel =>
            have hge : w.heap.size ≤ gI := by have := HSZ.out; have := HG4.out; omega
            have f9 : Fr (fun q => q = gI) Y (Y.setCell ⟨gI, k, none⟩ (.bool cf)) := Fr.setCell (P := fun q => q = gI) (p := ⟨gI, k, none⟩) (Fr.refl _ Y) (Or.inl rfl) _
            refine ⟨k + 1, by have := HKK.out; omega, by go_num, (HKP.out.trans HKY.out).setCell (p := ⟨gI, k, none⟩) hge _, (by have h1 := HZV.out; have h2 := HG9.out; have h3 := HKY.out.size; have h4 := f9.size; omega), ?_, f9.arr (fun e => by have := HSZ.out; have : g4 = gI := e; omega) (HA4.out.keep HKY.out), f9.arr (fun e => by have := HSZ.out; have := HG5.out; have : g5 = gI := e; omega) (HA5.out.keep HKY.out)⟩
            rw [HTK.out, HPB.out, ← bset2 HTL.out hlt]
            exact HAIY.out.set k _
        · subst hcb
          have hcl : c < cur.cells.length := by rw [H1.out]; exact hcN
          have m1 : (c : Int) < cur.cells.length := by omega
          have m2 : (0 : Int) ≤ c := by omega
          have m3 : ¬ ((c : Int) = -1) := by omega
          have m3' : ((c : Int) == -1) = false := by simp
          obtain ⟨xb, xo, hxa, xc1⟩ := Vs.cell (Sl.keep (Sl.keep HC.out HKP.out) HKY.out) hcl
          subst hxa
          have hx64 : cur.cells[c] < 2 ^ 64 := H3.out _ (List.getElem_mem hcl)
          have bb := bits_bit cur.cells[c] pbit hx64
          have HPB : Hid (pinB cur next (0, (c : Int), pbit) = cur.cells[c].testBit pbit) := Hid.mk (by simp [pinB, m3, PS.at, List.getD_eq_getElem?_getD, hcl])
          generalize cur.cells[c] = x at *
          have b1 : (pbit : Int) < 64 := by omega
          have b2 : (0 : Int) ≤ pbit := by omega
          have wu : IntKind.u64.wrap (pbit : Int) = (pbit : Int) := by simp [IntKind.wrap, IntKind.signed, IntKind.bits]; omega
          have HHX := Hid.mk hx64
          clear hx64 hcl m3
          have HTB : Hid (∀ r : Bool, x.testBit pbit = r → (((x.testBit pbit).toNat : Nat) : Int) = (r.toNat : Int)) := Hid.mk (fun r h => by rw [h])
          rcases Bool.eq_false_or_eq_true (x.testBit pbit) with ht | ht
          all_goals
            rw [ht] at bb HPB
            simp only [Bool.toNat_true, Bool.toNat_false] at bb
            clear ht
            go_wp2_with fail
            go_region
            go_wp2_with fail
            go_roundg (gk - 1)
            case measure => have := HKK.out; omega
            case rel =>
              have hge : w.heap.size ≤ gI := by have := HSZ.out; have := HG4.out; omega
              have fx : ∀ u, Fr (fun q => q = gI) Y (Y.setCell ⟨gI, k, none⟩ u) := fun u => Fr.setCell (P := fun q => q = gI) (p := ⟨gI, k, none⟩) (Fr.refl _ Y) (Or.inl rfl) _
              refine ⟨k + 1, by have := HKK.out; omega, by go_num, ((HKP.out.trans HKY.out).setCell (p := ⟨gI, k, none⟩) hge _).drew, (by have h1 := HZV.out; have h2 := HG9.out; have h3 := HKY.out.size; refine Nat.le_trans ?_ (fx _).size; omega), ?_, ((fx _).arr (fun e => by have := HSZ.out; have : g4 = gI := e; omega) (HA4.out.keep HKY.out)).drew, ((fx _).arr (fun e => by have := HSZ.out; have := HG5.out; have : g5 = gI := e; omega) (HA5.out.keep HKY.out)).drew⟩
              rw [HTK.out, HPB.out, ← bset2 HTL.out hlt]
              exact (HAIY.out.set k _).drew
      · go_upto_region 5 with fail
        obtain ⟨Y1, hY1⟩ : ∃ Y1, Y1 = wr.alloc (.cells #[.int .i64 1, .int .i64 pcell, .int .i64 ((pbit : Nat) : Int)] 67) := ⟨_, rfl⟩
        rw [← hY1]
        have k1 : Keep wr Y1 := by rw [hY1]; exact (Keep.refl wr).alloc _
        have aP1 : Arr Y1 wr.heap.size 67 [.int .i64 1, .int .i64 pcell, .int .i64 ((pbit : Nat) : Int)] := by rw [hY1]; exact Arr.new wr 67 _
        have sz1 : Y1.heap.size = wr.heap.size + 1 := by rw [hY1]; simp
        have x0 := k1.cell x0
        have x1 := k1.cell x1
        clear hY1 c0 c1 c2
        have HSZ1 := Hid.mk sz1
        clear sz1
        go_upto_region 6 with fail
        obtain ⟨Y2, hY2⟩ : ∃ Y2, Y2 = Y1.alloc (.cells #[.slice sa cur.cells.length sc, .bool cf] 37) := ⟨_, rfl⟩
        rw [← hY2]
        have k2 : Keep Y1 Y2 := by rw [hY2]; exact (Keep.refl Y1).alloc _
        have A9 : Arr Y2 Y1.heap.size 37 [.slice sa cur.cells.length sc, .bool cf] := by rw [hY2]; exact Arr.new Y1 37 _
        have A8 := aP1.keep k2
        have x2 := (k1.trans k2).cell x2
        have x3 := (k1.trans k2).cell x3
        have y0 : Y2.cell? ⟨wr.heap.size, 0, none⟩ = some (.int .i64 1) := A8.cell 0
        have e0 : Y2.cell? ⟨Y1.heap.size, 0, none⟩ = some (.slice sa cur.cells.length sc) := A9.cell 0
        have e1 : Y2.cell? ⟨Y1.heap.size, 1, none⟩ = some (.bool cf) := A9.cell 1
        have e2 := A9.frozen 0
        have e3 := A9.frozen 1
        clear hY2 x0 x1
        generalize hg10 : Y1.heap.size = g10 at *
        generalize hg9 : wr.heap.size = g9 at *
        have h910 : g9 < g10 ∧ gI < g9 := by have := HSZ1.out; have := HAI.out.lt; omega
        have HG9 : Hid (g9 = wr.heap.size) := Hid.mk hg9.symm
        have HG10 : Hid (g10 = Y1.heap.size) := Hid.mk hg10.symm
        clear hg10 hg9
        go_upto_region 8 with fail
        obtain ⟨Y, hY⟩ : ∃ Y, Y = (Y2.setCell ⟨g10, 0, none⟩ (.slice ta next.cells.length tc)).setCell ⟨g10, 1, none⟩ (.bool nf) := ⟨_, rfl⟩
        rw [← hY]
        have hge0 : wr.heap.size ≤ g10 := by have := HG9.out; omega
        have kY : Keep wr Y := by rw [hY]; exact ((k1.trans k2).setCell (p := ⟨g10, 0, none⟩) hge0 _).setCell (p := ⟨g10, 1, none⟩) hge0 _
        have aY : Arr Y g10 37 [.slice ta next.cells.length tc, .bool nf] := by rw [hY]; exact (A9.set 0 _).set 1 _
        have aP : Arr Y g9 67 [.int .i64 1, .int .i64 pcell, .int .i64 ((pbit : Nat) : Int)] := by
          rw [hY]
          exact (Fr.setCell (P := fun q => q = g10) (p := ⟨g10, 1, none⟩) (Fr.setCell (P := fun q => q = g10) (p := ⟨g10, 0, none⟩) (Fr.refl _ _) (Or.inl rfl) _) (Or.inl rfl) _).arr (fun e => by have : g9 = g10 := e; omega) A8
        clear hY hge0 y0 e0 e1 e2 e3 x2 x3
        have HKY := Hid.mk kY
        have y1 : Y.cell? ⟨g9, 1, none⟩ = some (.int .i64 pcell) := aP.cell 1
        have y2 : Y.cell? ⟨g9, 2, none⟩ = some (.int .i64 ((pbit : Nat) : Int)) := aP.cell 2
        have s0 : Y.cell? ⟨g10, 0, none⟩ = some (.slice ta next.cells.length tc) := aY.cell 0
        have s1 : Y.cell? ⟨g10, 1, none⟩ = some (.bool nf) := aY.cell 1
        have aI := HAI.out.keep kY
        obtain ⟨u1, ci⟩ : ∃ u, Y.cell? ⟨gI, k, none⟩ = some u := ⟨_, (aI.cell k).trans (List.getElem?_eq_getElem (by have := HTL.out; simp only [List.length_append, List.length_map, List.length_replicate] at this ⊢; omega))⟩
        have fi := aI.frozen k
        have HAIY := Hid.mk aI
        have n1 : gI ≠ g9 := by omega
        have n2 : gI ≠ g10 := by omega
        clear A9 A8 kY aY aP aI h910 aP1 k1 k2
        rcases HCB.out with hcb | ⟨c, hcb, hcN, hb64⟩
        · subst hcb
          have HPB : Hid (pinB cur next (1, -1, pbit) = nf) := Hid.mk (by simp [pinB, HCF.out, HNF.out])
          go_wp2_with fail
          go_roundg (gk - 1)
          case measure => have := HKK.out; omega
          case rel =>
            have hge : w.heap.size ≤ gI := by have := HSZ.out; have := HG4.out; omega
            have f9 : Fr (fun q => q = gI) Y (Y.setCell ⟨gI, k, none⟩ (.bool nf)) := Fr.setCell (P := fun q => q = gI) (p := ⟨gI, k, none⟩) (Fr.refl _ Y) (Or.inl rfl) _
            refine ⟨k + 1, by have := HKK.out; omega, by go_num, (HKP.out.trans HKY.out).setCell (p := ⟨gI, k, none⟩) hge _, (by have h1 := HZV.out; have h2 := HG9.out; have h3 := HKY.out.size; have h4 := f9.size; omega), ?_, f9.arr (fun e => by have := HSZ.out; have : g4 = gI := e; omega) (HA4.out.keep HKY.out), f9.arr (fun e => by have := HSZ.out; have := HG5.out; have : g5 = gI := e; omega) (HA5.out.keep HKY.out)⟩
            rw [HTK.out, HPB.out, ← bset2 HTL.out hlt]
            exact HAIY.out.set k _
        · subst hcb
          have hcl : c < next.cells.length := by rw [H2.out]; exact hcN
          have m1 : (c : Int) < next.cells.length := by omega
          have m2 : (0 : Int) ≤ c := by omega
          have m3 : ¬ ((c : Int) = -1) := by omega
          have m3' : ((c : Int) == -1) = false := by simp
          obtain ⟨xb, xo, hxa, xc1⟩ := Vs.cell (Sl.keep (Sl.keep HN.out HKP.out) HKY.out) hcl
          subst hxa
          have hx64 : next.cells[c] < 2 ^ 64 := H4.out _ (List.getElem_mem hcl)
          have bb := bits_bit next.cells[c] pbit hx64
          have HPB : Hid (pinB cur next (1, (c : Int), pbit) = next.cells[c].testBit pbit) := Hid.mk (by simp [pinB, m3, PS.at, List.getD_eq_getElem?_getD, hcl])
          generalize next.cells[c] = x at *
          have b1 : (pbit : Int) < 64 := by omega
          have b2 : (0 : Int) ≤ pbit := by omega
          have wu : IntKind.u64.wrap (pbit : Int) = (pbit : Int) := by simp [IntKind.wrap, IntKind.signed, IntKind.bits]; omega
          have HHX := Hid.mk hx64
          clear hx64 hcl m3
          have HTB : Hid (∀ r : Bool, x.testBit pbit = r → (((x.testBit pbit).toNat : Nat) : Int) = (r.toNat : Int)) := Hid.mk (fun r h => by rw [h])
          rcases Bool.eq_false_or_eq_true (x.testBit pbit) with ht | ht
          all_goals
            rw [ht] at bb HPB
            simp only [Bool.toNat_true, Bool.toNat_false] at bb
            clear ht
            go_wp2_with fail
            go_region
            go_wp2_with fail
            go_roundg (gk - 1)
            case measure => have := HKK.out; omega
            case rel =>
              have hge : w.heap.size ≤ gI := by have := HSZ.out; have := HG4.out; omega
              have fx : ∀ u, Fr (fun q => q = gI) Y (Y.setCell ⟨gI, k, none⟩ u) := fun u => Fr.setCell (P := fun q => q = gI) (p := ⟨gI, k, none⟩) (Fr.refl _ Y) (Or.inl rfl) _
              refine ⟨k + 1, by have := HKK.out; omega, by go_num, ((HKP.out.trans HKY.out).setCell (p := ⟨gI, k, none⟩) hge _).drew, (by have h1 := HZV.out; have h2 := HG9.out; have h3 := HKY.out.size; refine Nat.le_trans ?_ (fx _).size; omega), ?_, ((fx _).arr (fun e => by have := HSZ.out; have : g4 = gI := e; omega) (HA4.out.keep HKY.out)).drew, ((fx _).arr (fun e => by have := HSZ.out; have := HG5.out; have : g5 = gI := e; omega) (HA5.out.keep HKY.out)).drew⟩
              rw [HTK.out, HPB.out, ← bset2 HTL.out hlt]
              exact (HAIY.out.set k _).drew
    · have j1 : ¬ (k : Int) < pl.length := by omega
      obtain rfl : k = pl.length := by have := HKK.out; omega
      clear a4 a5 kp
      go_wp2_with fail
      go_ret
      refine ⟨gI, rfl, ?_, HKP.out⟩
      have h9 := HAI.out
      rw [Nat.sub_self, List.replicate_zero, List.append_nil, List.take_length] at h9
      have h8 := sl_arr h9 (by rw [List.length_map]; omega)
      rw [List.length_map, List.map_map] at h8
      first | exact h8 | (rw [List.map_map]; exact h8)
end Go.Proofs.Qxb6500772a
