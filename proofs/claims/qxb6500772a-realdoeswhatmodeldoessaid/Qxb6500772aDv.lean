/- blast: stmts. -/
import Derived.Test.Qxb6500772aDp
import Derived.Test.Qxb6500772aDq
import Derived.Test.Qxb6500772aDr
import Derived.Test.Qxb6500772aDs
import Derived.Test.Qxb6500772aDu
import Derived.Test.Qxb6500772aEc
import Derived.Deep.RegionHeld3
namespace Go.Proofs.Qxb6500772a
open Go.RowKit Go.Qm
set_option linter.unusedVariables false
set_option linter.unusedSimpArgs false
attribute [local go_sem ↓] Go.wp_at_zero Go.wp_at_succ
theorem put_lit (l : List Value) (d : List Deferred) (i : Nat) (v : Value) : Act.put ⟨l.toArray, d⟩ (some i) v = ⟨(l.set i v).toArray, d⟩ := by simp [Act.put]
theorem i64_u64 (z : Int) (h0 : -9223372036854775808 ≤ z) (h1 : z ≤ 9223372036854775807) : ∃ u : Nat, IntKind.u64.wrap z = (u : Int) ∧ u < 2 ^ 64 ∧ ∀ wd, wd ≤ 64 → u % 2 ^ wd = (z % 2 ^ wd).toNat := by
  refine ⟨(z % 18446744073709551616).toNat, ?_, by omega, fun wd hw => ?_⟩
  · simp [IntKind.wrap, IntKind.signed, IntKind.bits]
    omega
  · have hd : (2 : Int) ^ wd ∣ 18446744073709551616 := by
      have : (18446744073709551616 : Int) = 2 ^ 64 := by decide
      rw [this]
      exact ⟨2 ^ (64 - wd), by rw [← Int.pow_add]; congr 1; omega⟩
    have hp : ((2 ^ wd : Nat) : Int) = (2 : Int) ^ wd := by push_cast; rfl
    have h2 : ((z % 18446744073709551616).toNat : Int) = z % 18446744073709551616 := by omega
    have h3 : (((z % 18446744073709551616).toNat % 2 ^ wd : Nat) : Int) = z % 2 ^ wd := by
      rw [Int.natCast_emod, h2, hp, Int.emod_emod_of_dvd _ hd]
    omega
set_option maxRecDepth 8000 in
set_option maxHeartbeats 20000000 in
theorem stmts_n {P : Nat → Prop} {cels : List Cel} (hcl3 : cels.length ≤ 256) (hWS : WsOK (cels.map (·.w))) : ∀ (N : Nat) (t : SL), t.size = N → MC P cels t := by
  intro N
  induction N using Nat.strongRecOn with
  | _ N ih =>
    intro t hN B X w gB cv gc gv G n gF oF gW ty cs S vs ls fb v rows h hc hF hr he hwt hl
    have hcl : cels.length ≤ 1000000 := by omega
    have HIH : Hid (∀ (t' : SL), t'.size < t.size → MC P cels t') := Hid.mk (fun t' ht' => ih t'.size (by rw [← hN]; exact ht') t' rfl)
    have HCWL : Hid ((cels.map (·.w)).length = cels.length) := Hid.mk (List.length_map _)
    generalize hcw : cels.map (·.w) = cw at *
    have HCWE := Hid.mk hcw
    have hlen := he.len
    obtain ⟨va, vc, hv, v1, v2⟩ := hr.form
    rw [hlen] at hv v1
    subst hv
    unfold maxLen at v2
    simp only [SL.len] at *
    have HB := Hid.mk h
    have HC := Hid.mk hc
    have HF := Hid.mk hF
    have HR := Hid.mk hr
    have HE := Hid.mk he
    have HLEN := Hid.mk hlen
    have HWT := Hid.mk hwt
    have HWS := Hid.mk hWS
    have HL := Hid.mk hl
    have HPX := Hid.mk (pFX hF)
    have HNS := Hid.mk (nS_sum t)
    have HX : Hid (∀ inp, exL cw t (S inp) = t.toL.foldl (exX cw) (S inp)) := Hid.mk (fun inp => exL_fold _ _ _)
    have hli : (t.toL.length : Int) ≤ 9223372036854775807 := by omega
    have hcl2 : cw.length ≤ 256 := by rw [HCWL.out]; exact hcl3
    have i1 : (cw.length : Int) ≤ 256 := by omega
    have HWD : Hid (∀ i, i < cw.length → (cw.getD i 0).toNat ≤ 64 ∧ 1 ≤ (cw.getD i 0).toNat) := Hid.mk (fun i hi => by
      have h9 : cw.getD i 0 ∈ cw := by rw [List.getD_eq_getElem?_getD, List.getElem?_eq_getElem hi]; exact List.getElem_mem hi
      have := hWS _ h9
      omega)
    clear h hc hF hr he hlen hwt hl ih hN hcw hWS
    go_enter Try.func28, Try.ntmps28
    go_wp2_with fail
    go_loopg [12] t.toL.length (fun gk v12 wr => ∃ (k : Nat) (gv1 : Value) (G1 : List Gate) (vs1 : List Value) (ls1 : List (List Nat)) (fb1 : Nat), k + gk = t.toL.length ∧ v12 = .int .i64 k ∧ SX (pF gF gW) B X P w gB cv gc gv G n (131072 * nSs (t.toL.take k)) wr gv1 G1 ∧ FRM X gc gv1 wr G1 gF oF gW ty cs cw (fun inp => (t.toL.take k).foldl (exX cw) (S inp)) vs1 ls1 fb1)
    case atStart => exact ⟨0, gv, G, vs, ls, fb, by omega, rfl, (ST.refl HB.out).sx.mono (by omega), HF.out.congr (fun inp => by simp)⟩
    case round =>
      obtain ⟨k, gv1, G1, vs1, ls1, fb1, hk, rfl, hsx, hfr⟩ := hrel
      have HK := Hid.mk hk
      have HX1 := Hid.mk hsx
      have HF1 := Hid.mk hfr
      have hKP := hsx.kp HB.out HPX.out
      clear hsx hfr hk
      by_cases hlt : k < t.toL.length
      · have j1 : (k : Int) < t.toL.length := by omega
        have j2 : (0 : Int) ≤ k := by omega
        have hrl : k < rows.length := by rw [HLEN.out]; exact hlt
        obtain ⟨ev, er, tv, tr, lv, lr, x1, x2, x3, x4, x5, x6, x7, x8⟩ := (HE.out.step hKP).get k hlt hrl
        obtain ⟨b, o, ha, -, -, hcc⟩ := (HR.out.step hKP).cell hrl
        subst ha
        have c0 := hcc 0 (by decide)
        have c1 := hcc 1 (by decide)
        have c2 := hcc 2 (by decide)
        have c3 := hcc 3 (by decide)
        have c4 := hcc 4 (by decide)
        have c5 := hcc 5 (by decide)
        have c6 := hcc 6 (by decide)
        have c7 := hcc 7 (by decide)
        rw [x1] at c0 c1 c2 c3 c4 c5 c6 c7
        simp only [sfC, List.getElem?_cons_zero, List.getElem?_cons_succ, Nat.add_zero] at c0 c1 c2 c3 c4 c5 c6 c7
        have hms := SL.mem_size (List.getElem_mem hlt)
        have HMS := Hid.mk hms
        have HWX := Hid.mk (wtS_mem HWT.out _ (List.getElem_mem hlt))
        have HNK := Hid.mk (nSs_take hlt)
        have HNL := Hid.mk (nSs_le t.toL (k + 1))
        have HFO : Hid (∀ inp, (t.toL.take (k + 1)).foldl (exX cw) (S inp) = exX cw ((t.toL.take k).foldl (exX cw) (S inp)) t.toL[k]) := Hid.mk (fun inp => by rw [List.take_succ_eq_append_getElem hlt, List.foldl_append]; rfl)
        obtain ⟨S1, hS1⟩ : ∃ S1 : SS, S1 = fun inp => (t.toL.take k).foldl (exX cw) (S inp) := ⟨_, rfl⟩
        rw [← hS1] at HF1
        have HFO : Hid (∀ inp, (t.toL.take (k + 1)).foldl (exX cw) (S inp) = exX cw (S1 inp) t.toL[k]) := Hid.mk (fun inp => by rw [hS1]; exact HFO.out inp)
        generalize nSs (t.toL.take k) = nk at *
        generalize hnk1 : nSs (t.toL.take (k + 1)) = nk1 at *
        have HNK1 := Hid.mk hnk1
        clear hnk1
        generalize t.toL[k] = x at *
        obtain ⟨f, ex, th, el⟩ := x
        simp only at *
        obtain ⟨ea, ec, hev, ev1, ev2⟩ := x3.form
        obtain ⟨ta, tc, htv, tv1, tv2⟩ := x5.form
        obtain ⟨la, lc, hlv, lv1, lv2⟩ := x7.form
        subst hev htv hlv
        unfold maxLen at ev2 tv2 lv2
        have HSF := Hid.mk x2
        have hszl : G1.length + 131072 * nY (f, ex, th, el) ≤ 580000000 := by have := HL.out; have := HNS.out; have := HNK.out; have := HNL.out; have := HX1.out.len; omega
        have HSZ := Hid.mk hszl
        clear hcc hrl hms hKP x1 x2 hS1 hszl
        go_upto_region 3 with fail
        obtain ⟨Z, hZ⟩ : ∃ Z, Z = wr.alloc (.cells #[.int .i64 f.k, .int .i64 f.c, .int .i64 f.l, .int .i64 f.a, .int .i64 f.b, .slice ea er.length ec, .slice ta tr.length tc, .slice la lr.length lc] 109) := ⟨_, rfl⟩
        rw [← hZ]
        have kZ : Keep wr Z := by rw [hZ]; exact (Keep.refl wr).alloc _
        have aZ : Arr Z wr.heap.size 109 (SfC f (.slice ea er.length ec) (.slice ta tr.length tc) (.slice la lr.length lc)) := by rw [hZ]; exact Arr.new wr 109 _
        have HTZ := Hid.mk (ST.keep HX1.out.bs kZ)
        have HXZ := Hid.mk ((HX1.out.thn HTZ.out).mono (Nat.le_refl _))
        have HFZ := Hid.mk (HF1.out.keep kZ)
        have HAZ := Hid.mk aZ
        have HKPZ := Hid.mk (HXZ.out.kp HB.out HPX.out)
        have HCZ := Hid.mk (HC.out.step HKPZ.out)
        have HX3 := Hid.mk (x3.step (KP.of kZ))
        have HX4 := Hid.mk (x4.step (KP.of kZ))
        have HX5 := Hid.mk (x5.step (KP.of kZ))
        have HX6 := Hid.mk (x6.step (KP.of kZ))
        have HX7 := Hid.mk (x7.step (KP.of kZ))
        have HX8 := Hid.mk (x8.step (KP.of kZ))
        have hgZ : ¬ fpC gc gv1 wr.heap.size ∧ ¬ pF gF gW wr.heap.size := ⟨fun a => by have := (HX1.out.bs.cc.flt a).2; omega, fun a => by
          have h1 := HX1.out.bs.hX _ HF1.out.xf
          have h2 := HX1.out.bs.hX _ HF1.out.xw
          rcases a with a | a <;> omega⟩
        have HGZ := Hid.mk hgZ
        obtain ⟨q0, q1, q2, q3, q4, q5, q6, q7⟩ := sfC_cells aZ
        generalize wr.heap.size = gZ at *
        clear hZ kZ aZ c0 c1 c2 c3 c4 c5 c6 c7 x3 x4 x5 x6 x7 x8 hgZ
        have HEND : Hid (∀ w9 gv9 G9 vs9 ls9 fb9, SX (pF gF gW) B X P Z gB cv gc gv1 G1 n (131072 * nY (f, ex, th, el)) w9 gv9 G9 → FRM X gc gv9 w9 G9 gF oF gW ty cs cw (fun inp => exX cw (S1 inp) (f, ex, th, el)) vs9 ls9 fb9 → ∃ (k' : Nat) (gv1 : Value) (G1 : List Gate) (vs1 : List Value) (ls1 : List (List Nat)) (fb1 : Nat), k' + (gk - 1) = t.toL.length ∧ Value.int .i64 ((k : Int) + 1) = .int .i64 k' ∧ SX (pF gF gW) B X P w gB cv gc gv G n (131072 * nSs (t.toL.take k')) w9 gv1 G1 ∧ FRM X gc gv1 w9 G1 gF oF gW ty cs cw (fun inp => (t.toL.take k').foldl (exX cw) (S inp)) vs1 ls1 fb1) := Hid.mk (fun w9 gv9 G9 vs9 ls9 fb9 s f9 => ⟨k + 1, gv9, G9, vs9, ls9, fb9, by have := HK.out; omega, by push_cast; rfl, (HXZ.out.trans s).mono (by rw [HNK1.out]; have := HNK.out; omega), f9.congr (fun inp => (HFO.out inp).symm)⟩)
        have HOCX : Hid (∀ fn, OC fn P cels f ex th el → Calls Try.prog fn #[.pointer (some ⟨gB, 0, none⟩), sfA f (.slice ea er.length ec) (.slice ta tr.length tc) (.slice la lr.length lc), .pointer (some ⟨gF, oF, none⟩)] Z fun e w' => RS B X P gB cv gc gv1 Z G1 n (131072 * nY (f, ex, th, el)) gF oF gW ty cs cw (fun inp => exX cw (S1 inp) (f, ex, th, el)) e w') := Hid.mk (fun fn hoc => by
          have h9 := hoc B X Z gB cv gc gv1 G1 n gF oF gW ty cs S1 vs1 ls1 fb1 _ _ _ er tr lr HTZ.out.bs HCZ.out (by rw [HCWE.out]; exact HFZ.out) HSF.out HX3.out HX4.out HX5.out HX6.out HX7.out HX8.out (by rw [HCWE.out]; exact HWX.out.1) (by rw [HCWE.out]; exact HWX.out.2) HSZ.out
          rw [HCWE.out] at h9
          exact h9)
        simp only [sfA] at HOCX
        rcases HWX.out.2 with ⟨kd, a0, E, hcc⟩ | ⟨kd, a0, a1, E, hcc⟩ | ⟨kd, E, hT, hE9⟩ | ⟨kd, E, hcc, hT⟩ | ⟨kd, E, hcc⟩ | ⟨kd, a0, E, hcc, hcd⟩ | ⟨kd, a0, E, hcc, hcd, hce⟩
        · as_aux_lemma =>
            obtain ⟨c0, c1, c2, c3⟩ := hcc
            obtain ⟨C, hC⟩ : ∃ C : Nat, f.c = C := ⟨f.c.toNat, by omega⟩
            have hCl : C < cw.length := by omega
            have hexl : ex.toL.length = 1 := by have := ws_len ex; rw [E] at this; simpa [EL.len] using this.symm
            obtain ⟨D, hD⟩ : ∃ D, D = (cw.getD C 0).toNat := ⟨_, rfl⟩
            have HHD := Hid.mk hD
            have hcwC : kw ex.ws 0 = D := by
              rw [hD]
              have h9 := c3 0 (by decide)
              rw [show f.c.toNat + 0 = C by rw [hC]; rfl] at h9
              rw [E, h9]; rfl
            have HCWC := Hid.mk hcwC
            have HCC := Hid.mk hCl
            have HHC := Hid.mk hC
            have m1 : (C : Int) < cw.length := by omega
            have m2 : (0 : Int) ≤ C := by omega
            have HRX : Hid (∀ inp, exX cw (S1 inp) (f, ex, th, el) = (⟨(S1 inp).cells, (S1 inp).fault || anyF (evL ex (S1 inp))⟩ : PS).put C (kv (evL ex (S1 inp)) 0)) := Hid.mk (fun inp => by simp only [exX, exOne, kd, if_true, hC]; rfl)
            have HI := Hid.mk (inputs_c (HTZ.out.bs.keep (Keep.refl Z).drew) (HFZ.out.keep (Keep.refl Z).drew) HWS.out (by omega) f (er := er) (HX5.out.step (KP.of (Keep.refl Z).drew)).sl (HX7.out.step (KP.of (Keep.refl Z).drew)).sl (HX3.out.step (KP.of (Keep.refl Z).drew)) (HX4.out.step (KP.of (Keep.refl Z).drew)) HWX.out.1 (by omega) (by have := HSZ.out; have := nY_pos f ex th el; omega))
            simp only [sfA] at HI
            rw [kd, hC] at HI
            rw [kd] at q0
            rw [hC] at q1
            have sd : Z.drew.cell? ⟨gF, oF, none⟩ = some (.slice (some ⟨gW, 0, none⟩) cw.length cw.length) ∧ Z.drew.cell? ⟨gZ, 0, none⟩ = some (.int .i64 0) ∧ Z.drew.cell? ⟨gZ, 1, none⟩ = some (.int .i64 (C : Nat)) ∧ Z.drew.cell? ⟨gZ, 2, none⟩ = some (.int .i64 f.l) ∧ Z.drew.cell? ⟨gZ, 3, none⟩ = some (.int .i64 f.a) ∧ Z.drew.cell? ⟨gZ, 4, none⟩ = some (.int .i64 f.b) ∧ Z.drew.cell? ⟨gZ, 5, none⟩ = some (.slice ea er.length ec) ∧ Z.drew.cell? ⟨gZ, 6, none⟩ = some (.slice ta tr.length tc) ∧ Z.drew.cell? ⟨gZ, 7, none⟩ = some (.slice la lr.length lc) := ⟨HFZ.out.cells.1, q0, q1, q2, q3, q4, q5, q6, q7⟩
            have HAZC : Hid (SfC f (.slice ea er.length ec) (.slice ta tr.length tc) (.slice la lr.length lc) = [.int .i64 0, .int .i64 (C : Nat), .int .i64 f.l, .int .i64 f.a, .int .i64 f.b, .slice ea er.length ec, .slice ta tr.length tc, .slice la lr.length lc]) := Hid.mk (by rw [SfC, kd, hC])
            have HS4 : Hid (∀ Y w4 gv4 G4 S4 vs4 ls4 fb4, SX (pF gF gW) B X P Z gB cv gc gv1 G1 n Y w4 gv4 G4 → FRM X gc gv4 w4 G4 gF oF gW ty cs cw S4 vs4 ls4 fb4 → w4.cell? ⟨gF, oF, none⟩ = some (.slice (some ⟨gW, 0, none⟩) cw.length cw.length) ∧ w4.cell? ⟨gZ, 0, none⟩ = some (.int .i64 0) ∧ w4.cell? ⟨gZ, 1, none⟩ = some (.int .i64 (C : Nat)) ∧ w4.cell? ⟨gZ, 2, none⟩ = some (.int .i64 f.l) ∧ w4.cell? ⟨gZ, 3, none⟩ = some (.int .i64 f.a) ∧ w4.cell? ⟨gZ, 4, none⟩ = some (.int .i64 f.b) ∧ w4.cell? ⟨gZ, 5, none⟩ = some (.slice ea er.length ec) ∧ w4.cell? ⟨gZ, 6, none⟩ = some (.slice ta tr.length tc) ∧ w4.cell? ⟨gZ, 7, none⟩ = some (.slice la lr.length lc)) := Hid.mk (fun Y w4 gv4 G4 S4 vs4 ls4 fb4 s f4 => by
              have aZ := s.arr HAZ.out HGZ.out.1 HGZ.out.2
              rw [HAZC.out] at aZ
              exact ⟨f4.cells.1, aZ.cell 0, aZ.cell 1, aZ.cell 2, aZ.cell 3, aZ.cell 4, aZ.cell 5, aZ.cell 6, aZ.cell 7⟩)
            have HFIN : Hid (∀ w4 gv4 G4 gV wv wl fb4, SX (fun q => q = gF) B X P Z.drew gB cv gc gv1 G1 n (1028 * nE ex + 4) w4 gv4 G4 → FRM X gc gv4 w4 G4 gF oF gW ty cs cw (fun inp => ⟨(S1 inp).cells, (S1 inp).fault || anyF (evL ex (S1 inp))⟩) vs1 ls1 fb4 → VL X gc gv4 w4 G4 gV ex S1 wv wl → ∃ a c ua uc, w4.cell? ⟨gV, 0, none⟩ = some (.slice a D c) ∧ w4.cell? ⟨gW, C, none⟩ = some (.slice ua D uc) ∧ w4.frozen? ⟨gW, C, none⟩ = false ∧ (w4.cell? ⟨gF, oF, none⟩ = some (.slice (some ⟨gW, 0, none⟩) cw.length cw.length) ∧ w4.cell? ⟨gZ, 0, none⟩ = some (.int .i64 0) ∧ w4.cell? ⟨gZ, 1, none⟩ = some (.int .i64 (C : Nat)) ∧ w4.cell? ⟨gZ, 2, none⟩ = some (.int .i64 f.l) ∧ w4.cell? ⟨gZ, 3, none⟩ = some (.int .i64 f.a) ∧ w4.cell? ⟨gZ, 4, none⟩ = some (.int .i64 f.b) ∧ w4.cell? ⟨gZ, 5, none⟩ = some (.slice ea er.length ec) ∧ w4.cell? ⟨gZ, 6, none⟩ = some (.slice ta tr.length tc) ∧ w4.cell? ⟨gZ, 7, none⟩ = some (.slice la lr.length lc)) ∧ ((w4.setCell ⟨gW, C, none⟩ (.slice a D c)).cell? ⟨gF, oF, none⟩ = some (.slice (some ⟨gW, 0, none⟩) cw.length cw.length) ∧ (w4.setCell ⟨gW, C, none⟩ (.slice a D c)).cell? ⟨gZ, 0, none⟩ = some (.int .i64 0) ∧ (w4.setCell ⟨gW, C, none⟩ (.slice a D c)).cell? ⟨gZ, 1, none⟩ = some (.int .i64 (C : Nat)) ∧ (w4.setCell ⟨gW, C, none⟩ (.slice a D c)).cell? ⟨gZ, 2, none⟩ = some (.int .i64 f.l) ∧ (w4.setCell ⟨gW, C, none⟩ (.slice a D c)).cell? ⟨gZ, 3, none⟩ = some (.int .i64 f.a) ∧ (w4.setCell ⟨gW, C, none⟩ (.slice a D c)).cell? ⟨gZ, 4, none⟩ = some (.int .i64 f.b) ∧ (w4.setCell ⟨gW, C, none⟩ (.slice a D c)).cell? ⟨gZ, 5, none⟩ = some (.slice ea er.length ec) ∧ (w4.setCell ⟨gW, C, none⟩ (.slice a D c)).cell? ⟨gZ, 6, none⟩ = some (.slice ta tr.length tc) ∧ (w4.setCell ⟨gW, C, none⟩ (.slice a D c)).cell? ⟨gZ, 7, none⟩ = some (.slice la lr.length lc)) ∧ ∃ vs9 ls9, SX (pF gF gW) B X P Z gB cv gc gv1 G1 n (131072 * nY (f, ex, th, el)) (w4.setCell ⟨gW, C, none⟩ (.slice a D c)) gv4 G4 ∧ FRM X gc gv4 (w4.setCell ⟨gW, C, none⟩ (.slice a D c)) G4 gF oF gW ty cs cw (fun inp => exX cw (S1 inp) (f, ex, th, el)) vs9 ls9 fb4) := Hid.mk (fun w4 gv4 G4 gV wv wl fb4 sx fr vl => by
              have l1 := vl.lv
              have l2 := vl.ll
              rw [hexl] at l1 l2
              have wo := vl.wo 0 (by omega) (by omega)
              have wv0 := vl.wv 0 (by omega)
              rw [HCWC.out] at wv0
              obtain ⟨a, c, hv, -, -⟩ := wo.sh wv0
              rw [hv] at wo
              obtain ⟨uv, lu, u1, u2, u3, u4⟩ := fr.word HCC.out
              rw [← HHD.out] at u4
              obtain ⟨ua, uc, huv, -, -⟩ := u3.sh u4
              rw [huv] at u1
              have sz : SX (pF gF gW) B X P Z gB cv gc gv1 G1 n (131072 * nY (f, ex, th, el)) w4 gv4 G4 := (((ST.keep HTZ.out.bs (Keep.refl Z).drew).sx (Y := pF gF gW)).trans (sx.wider (fun q _ a => Or.inl a))).mono (by have := nY_pos f ex th el; omega)
              have fp := fr.put HCC.out wo (by rw [← HHD.out]; exact wv0)
              have sp := SX.put sz fr C (.slice a D c)
              refine ⟨a, c, ua, uc, ?_, u1, u2, HS4.out _ _ _ _ _ _ _ _ sz fr, HS4.out _ _ _ _ _ _ _ _ sp fp, _, _, sp, fp.congr (fun inp => (HRX.out inp).symm)⟩
              rw [vl.ar.cell, List.getElem?_eq_getElem (by omega), hv])
            clear hD kd E c0 c1 c2 c3 hC hCl hcwC q1 q2 q3 q4 q5 q6 q7
            go_wp2_with fail
            refine s5_c gB gF oF gW gZ cw.length C D 0 f.l f.a f.b (.slice ea er.length ec) (.slice ta tr.length tc) (.slice la lr.length lc) rfl rfl rfl rfl (fun p w4 => ∃ gv4 G4 fb4 vs9 ls9, (w4.cell? ⟨gF, oF, none⟩ = some (.slice (some ⟨gW, 0, none⟩) cw.length cw.length) ∧ w4.cell? ⟨gZ, 0, none⟩ = some (.int .i64 0) ∧ w4.cell? ⟨gZ, 1, none⟩ = some (.int .i64 (C : Nat)) ∧ w4.cell? ⟨gZ, 2, none⟩ = some (.int .i64 f.l) ∧ w4.cell? ⟨gZ, 3, none⟩ = some (.int .i64 f.a) ∧ w4.cell? ⟨gZ, 4, none⟩ = some (.int .i64 f.b) ∧ w4.cell? ⟨gZ, 5, none⟩ = some (.slice ea er.length ec) ∧ w4.cell? ⟨gZ, 6, none⟩ = some (.slice ta tr.length tc) ∧ w4.cell? ⟨gZ, 7, none⟩ = some (.slice la lr.length lc)) ∧ w4.cell? ⟨p.gV, 0, none⟩ = some (.slice p.va D p.vc) ∧ (∃ u, w4.cell? ⟨gW, C, none⟩ = some u) ∧ w4.frozen? ⟨gW, C, none⟩ = false ∧ SX (pF gF gW) B X P Z gB cv gc gv1 G1 n (131072 * nY (f, ex, th, el)) (w4.setCell ⟨gW, C, none⟩ (.slice p.va D p.vc)) gv4 G4 ∧ FRM X gc gv4 (w4.setCell ⟨gW, C, none⟩ (.slice p.va D p.vc)) G4 gF oF gW ty cs cw (fun inp => exX cw (S1 inp) (f, ex, th, el)) vs9 ls9 fb4) HCC.out ?_ ?_ ?_ ?_
            · intro W9 hW9
              subst hW9
              exact sd
            · rintro p W9 ⟨gv4, G4, fb4, vs9, ls9, h1, h2, -⟩
              exact ⟨h1, h2⟩
            · refine HI.out.mono ?_
              rintro e w4 ⟨gv4, G4, gV, wv, wl, fb4, he9, sx4, fr4, vl4⟩
              rw [hexl] at he9
              obtain ⟨a4, c4, ua4, uc4, v0, u1, u2, sd4, sd5, vs9, ls9, hsx9, hfr9⟩ := HFIN.out _ _ _ _ _ _ _ sx4 fr4 vl4
              exact ⟨⟨gV, a4, c4⟩, he9, gv4, G4, fb4, vs9, ls9, sd4, v0, ⟨_, u1⟩, u2, hsx9, hfr9⟩
            · rintro p W9 ⟨gv4, G4, fb4, vs9, ls9, h1, h2, ⟨u, h3⟩, h4, h5, h6⟩
              have HR4 := Hid.mk (HEND.out _ _ _ _ _ _ h5 h6)
              refine ⟨⟨u, by rw [Nat.zero_add]; exact h3⟩, by rw [Nat.zero_add]; exact h4, ?_⟩
              rw [Nat.zero_add]
              generalize W9.setCell ⟨gW, C, none⟩ (.slice p.va D p.vc) = w10 at *
              clear h1 h2 h3 h4 h5 h6 sd q0
              simp only [lay, s5L, List.foldl_cons, List.foldl_nil]
              simp only [put_lit, List.set_cons_succ, List.set_cons_zero]
              go_wp2_with fail
              go_roundg (gk - 1)
              case measure => have := HK.out; omega
              case rel => exact HR4.out
        · as_aux_lemma =>
            have HO := Hid.mk (HOCX.out 64 (store_c hcl (by rw [HCWE.out]; exact HWS.out) kd))
            rw [kd] at q0 HO
            clear kd E hcc
            go_wp2_with fail
            refine HO.out.mono ?_
            rintro e w4 ⟨gv4, G4, vs4, ls4, fb4, rfl, sx4, fr4⟩
            have HR4 := Hid.mk (HEND.out _ _ _ _ _ _ sx4 fr4)
            clear sx4 fr4 q0 q1 q2 q3 q4 q5 q6 q7
            go_wp2_with fail
            go_roundg (gk - 1)
            case measure => have := HK.out; omega
            case rel => exact HR4.out
        · as_aux_lemma =>
            have HO := Hid.mk (HOCX.out 65 (branch_c hcl (by rw [HCWE.out]; exact HWS.out) kd hcl3 (HIH.out th HMS.out.1) (HIH.out el HMS.out.2)))
            rw [kd] at q0 HO
            clear kd E hT hE9
            go_wp2_with fail
            refine HO.out.mono ?_
            rintro e w4 ⟨gv4, G4, vs4, ls4, fb4, rfl, sx4, fr4⟩
            have HR4 := Hid.mk (HEND.out _ _ _ _ _ _ sx4 fr4)
            clear sx4 fr4 q0 q1 q2 q3 q4 q5 q6 q7
            go_wp2_with fail
            go_roundg (gk - 1)
            case measure => have := HK.out; omega
            case rel => exact HR4.out
        · as_aux_lemma =>
            obtain ⟨c0, c1, c2, c3⟩ := hcc
            obtain ⟨C, hC⟩ : ∃ C : Nat, f.c = C := ⟨f.c.toNat, by omega⟩
            have hCl : C < cw.length := by omega
            obtain ⟨D, hD⟩ : ∃ D, D = (cw.getD C 0).toNat := ⟨_, rfl⟩
            have hexl : ex.toL.length = 0 := by have := ws_len ex; rw [E] at this; simpa [EL.len] using this.symm
            have hD2 : D ≤ 64 ∧ 1 ≤ D := by rw [hD]; exact HWD.out C hCl
            have HRX : Hid (∀ inp, exX cw (S1 inp) (f, ex, th, el) = (List.range (itN f.a f.b)).foldl (fun (Q : PS) (k : Nat) => exL cw th (Q.put C ((f.a + k) % 2 ^ D).toNat)) (S1 inp)) := Hid.mk (fun inp => by
              have hev : evL ex (S1 inp) = [] := List.eq_nil_of_length_eq_zero (by rw [evL_len]; exact hexl)
              have h9 : kw cw C = D := by rw [hD]; rfl
              simp only [exX, exOne, kd, hC, hev, Int.toNat_natCast, h9, anyF, List.any_nil, Bool.or_false]
              rfl)
            have HNF : Hid (1 + itN f.a f.b * (1 + nS th) ≤ nY (f, ex, th, el)) := Hid.mk (by
              unfold nY nS1
              simp only
              rw [if_neg (fun a => by rw [kd] at a; exact absurd a.1 (by decide)), if_neg (by rw [kd]; decide), if_pos kd]
              omega)
            have hcC : C < cels.length := by rw [← HCWL.out]; exact hCl
            obtain ⟨ca, cc, hcv, cv1, cv2⟩ := HCZ.out.form
            have HCZ2 := HCZ
            rw [hcv] at HCZ2
            obtain ⟨cb, co, hca, hcel⟩ := HCZ2.out.cell hcC
            subst hca
            have hw0 := hcel 0 (by decide)
            have hcD : cels[C].w = (D : Int) := by
              have h9 : cw.getD C 0 = cels[C].w := by
                rw [← HCWE.out, List.getD_eq_getElem?_getD, List.getElem?_map, List.getElem?_eq_getElem hcC]; rfl
              have h8 := HWS.out (cw.getD C 0) (by rw [List.getD_eq_getElem?_getD, List.getElem?_eq_getElem hCl]; exact List.getElem_mem hCl)
              rw [← h9]; omega
            simp only [celC, List.getElem?_cons_zero, Nat.add_zero, hcD] at hw0
            have b1 := HTZ.out.bs.cells.2
            rw [hcv] at b1
            rw [hC] at q1
            rw [kd] at q0
            have sd : Z.drew.cell? ⟨gB, 1, none⟩ = some (.slice (some ⟨cb, co, none⟩) cels.length cc) ∧ Z.drew.cell? ⟨gZ, 1, none⟩ = some (.int .i64 (C : Nat)) ∧ Z.drew.cell? ⟨cb, co + C * 5, none⟩ = some (.int .i64 (D : Nat)) := ⟨b1, q1, hw0⟩
            have m1 : (C : Int) < cw.length := by omega
            have m2 : (0 : Int) ≤ C := by omega
            have m3 : (C : Int) < cels.length := by omega
            have m4 : (cels.length : Int) ≤ 256 := by omega
            unfold maxLen at cv2
            have HHC := Hid.mk hC
            have HCC := Hid.mk hCl
            have HHD := Hid.mk hD
            have HAZC : Hid (SfC f (.slice ea er.length ec) (.slice ta tr.length tc) (.slice la lr.length lc) = [.int .i64 3, .int .i64 (C : Nat), .int .i64 f.l, .int .i64 f.a, .int .i64 f.b, .slice ea er.length ec, .slice ta tr.length tc, .slice la lr.length lc]) := Hid.mk (by rw [SfC, kd, hC])
            have HIT : Hid (∀ W9, Calls Try.prog 38 #[.agg #[.int .i64 3, .int .i64 (C : Nat), .int .i64 f.l, .int .i64 f.a, .int .i64 f.b, .slice ea er.length ec, .slice ta tr.length tc, .slice la lr.length lc]] W9 fun e w' => e = .returned (.int .i64 ((itN f.a f.b : Nat) : Int)) ∧ Keep W9 w') := Hid.mk (fun W9 => by
              have h9 := iter_c f HSF.out HX3.out.sl HX5.out.sl HX7.out.sl W9
              simp only [sfA] at h9
              rw [kd, hC] at h9
              exact h9)
            have HTT := Hid.mk hT
            have HRNG : Hid (∀ j, j < itN f.a f.b → -9223372036854775808 ≤ f.a + (j : Int) ∧ f.a + (j : Int) ≤ 9223372036854775807) := Hid.mk (fun j hj => by
              have h1 := HSF.out.a
              have h2 := HSF.out.b
              unfold I64 at h1 h2
              unfold itN at hj
              split at hj
              · omega
              · split at hj <;> omega)
            have hit := itN_le f.a f.b
            have iit : ((itN f.a f.b : Nat) : Int) ≤ 4097 := by omega
            have HITL := Hid.mk hit
            clear hD kd E c0 c1 c2 c3 hC hCl hexl hcC hcv hw0 hcD b1 hT hit hcel
            obtain ⟨ok, hok⟩ : ∃ ok, ok = gk := ⟨_, rfl⟩
            subst hok
            go_wp2_with fail
            go_region_held3 (fun w' => w'.cell? ⟨gB, 1, none⟩ = some (.slice (some ⟨cb, co, none⟩) cels.length cc) ∧ w'.cell? ⟨gZ, 1, none⟩ = some (.int .i64 (C : Nat)) ∧ w'.cell? ⟨cb, co + C * 5, none⟩ = some (.int .i64 (D : Nat))) (with_reducible first | exact sd) (fail)
            rename_i hHd
            clear hHd sd
            clear q1 q2 q3 q4 q5 q6 q7
            go_wp2_with fail
            go_loopg [9] (itN f.a f.b) (fun gk v9 wr => ∃ (j : Nat) (gv5 : Value) (G5 : List Gate) (vs5 : List Value) (ls5 : List (List Nat)) (fb5 : Nat), j + gk = itN f.a f.b ∧ v9 = .int .i64 j ∧ SX (pF gF gW) B X P Z gB cv gc gv1 G1 n (131072 * (j * (1 + nS th))) wr gv5 G5 ∧ FRM X gc gv5 wr G5 gF oF gW ty cs cw (fun inp => (List.range j).foldl (fun (Q : PS) (k : Nat) => exL cw th (Q.put C ((f.a + k) % 2 ^ D).toNat)) (S1 inp)) vs5 ls5 fb5)
            case atStart => exact ⟨0, gv1, G1, vs1, ls1, fb1, by omega, rfl, (ST.keep HTZ.out.bs (Keep.refl Z).drew).sx.mono (by omega), (HFZ.out.keep (Keep.refl Z).drew).congr (fun inp => rfl)⟩
            case round =>
              obtain ⟨j, gv5, G5, vs5, ls5, fb5, hj, rfl, hsx, hfr⟩ := hrel
              have HJ := Hid.mk hj
              have HY5 := Hid.mk hsx
              have HG5 := Hid.mk hfr
              have HZC : Hid (∀ K W9 gv9 G9, SX (pF gF gW) B X P Z gB cv gc gv1 G1 n K W9 gv9 G9 → Arr W9 gZ 109 [.int .i64 3, .int .i64 (C : Nat), .int .i64 f.l, .int .i64 f.a, .int .i64 f.b, .slice ea er.length ec, .slice ta tr.length tc, .slice la lr.length lc]) := Hid.mk (fun K W9 gv9 G9 s => by
                have aZ := s.arr HAZ.out HGZ.out.1 HGZ.out.2
                rw [HAZC.out] at aZ
                exact aZ)
              have aZ := HZC.out _ _ _ _ hsx
              have z0 := aZ.cell 0
              have z1 := aZ.cell 1
              have z2 := aZ.cell 2
              have z3 := aZ.cell 3
              have z4 := aZ.cell 4
              have z5 := aZ.cell 5
              have z6 := aZ.cell 6
              have z7 := aZ.cell 7
              simp only [List.getElem?_cons_zero, List.getElem?_cons_succ] at z0 z1 z2 z3 z4 z5 z6 z7
              clear aZ hsx hfr hj
              go_wp2_with fail
              refine (HIT.out _).mono ?_
              rintro e w6 ⟨rfl, k6⟩
              have HT6 := Hid.mk (ST.keep HY5.out.bs k6)
              have HY6 := Hid.mk (HY5.out.thn HT6.out)
              have HG6 := Hid.mk (HG5.out.keep k6)
              clear k6 z0 z1 z2 z3 z4 z5 z6 z7
              by_cases hlt9 : j < itN f.a f.b
              · have j3 : (j : Int) < ((itN f.a f.b : Nat) : Int) := by omega
                have j4 : (0 : Int) ≤ j := by omega
                have hmul : (j + 1) * (1 + nS th) ≤ itN f.a f.b * (1 + nS th) := Nat.mul_le_mul_right _ hlt9
                have hsuc : (j + 1) * (1 + nS th) = j * (1 + nS th) + (1 + nS th) := Nat.succ_mul _ _
                have HSUC := Hid.mk hsuc
                have hs5 : G5.length + 131072 * (1 + nS th) + 131072 ≤ 580000000 := by have := HSZ.out; have := HNF.out; have := HY5.out.len; omega
                have HS5 := Hid.mk hs5
                obtain ⟨r1, r2⟩ := HRNG.out j hlt9
                have wa : IntKind.i64.wrap (f.a + (j : Int)) = f.a + (j : Int) := by rw [IntKind.wrap_i64]; omega
                obtain ⟨u, wu, hu, hum⟩ := i64_u64 (f.a + (j : Int)) r1 r2
                have HUM := Hid.mk (hum D hD2.1)
                have HC66 := Hid.mk (const_k (HT6.out.bs.keep (Keep.refl w6).drew) u hu D hD2.1 (by omega))
                have HSP : Hid (∀ K W9 gv9 G9 S9 vs9 ls9 fb9, SX (pF gF gW) B X P Z gB cv gc gv1 G1 n K W9 gv9 G9 → FRM X gc gv9 W9 G9 gF oF gW ty cs cw S9 vs9 ls9 fb9 → W9.cell? ⟨gF, oF, none⟩ = some (.slice (some ⟨gW, 0, none⟩) cw.length cw.length) ∧ W9.cell? ⟨gZ, 1, none⟩ = some (.int .i64 (C : Nat)) ∧ W9.cell? ⟨gB, 0, none⟩ = some (.pointer (some ⟨gc, 0, none⟩)) ∧ W9.cell? ⟨gZ, 3, none⟩ = some (.int .i64 f.a)) := Hid.mk (fun K W9 gv9 G9 S9 vs9 ls9 fb9 s f9 => by
                  have aZ := HZC.out _ _ _ _ s
                  exact ⟨f9.cells.1, aZ.cell 1, s.bs.cells.1, aZ.cell 3⟩)
                have sd := HSP.out _ _ _ _ _ _ _ _ HY6.out.drew (HG6.out.keep (Keep.refl w6).drew)
                have HFN : Hid (∀ W9 gv9 G9 a9 c9 l9, ST B X P w6 gB cv gc gv5 G5 n 64 W9 gv9 G9 → WO (fpX gc gv9 X) W9 (.slice a9 D c9) l9 → Wv G9 l9 D (fun _ => u % 2 ^ D) → (W9.cell? ⟨gF, oF, none⟩ = some (.slice (some ⟨gW, 0, none⟩) cw.length cw.length) ∧ W9.cell? ⟨gZ, 1, none⟩ = some (.int .i64 (C : Nat)) ∧ W9.cell? ⟨gB, 0, none⟩ = some (.pointer (some ⟨gc, 0, none⟩)) ∧ W9.cell? ⟨gZ, 3, none⟩ = some (.int .i64 f.a)) ∧ (∃ ua uc, W9.cell? ⟨gW, C, none⟩ = some (.slice ua D uc)) ∧ W9.frozen? ⟨gW, C, none⟩ = false ∧ ((W9.setCell ⟨gW, C, none⟩ (.slice a9 D c9)).cell? ⟨gF, oF, none⟩ = some (.slice (some ⟨gW, 0, none⟩) cw.length cw.length) ∧ (W9.setCell ⟨gW, C, none⟩ (.slice a9 D c9)).cell? ⟨gZ, 1, none⟩ = some (.int .i64 (C : Nat)) ∧ (W9.setCell ⟨gW, C, none⟩ (.slice a9 D c9)).cell? ⟨gB, 0, none⟩ = some (.pointer (some ⟨gc, 0, none⟩)) ∧ (W9.setCell ⟨gW, C, none⟩ (.slice a9 D c9)).cell? ⟨gZ, 3, none⟩ = some (.int .i64 f.a)) ∧ ∃ vs9 ls9, SX (pF gF gW) B X P Z gB cv gc gv1 G1 n (131072 * (j * (1 + nS th)) + 64) (W9.setCell ⟨gW, C, none⟩ (.slice a9 D c9)) gv9 G9 ∧ FRM X gc gv9 (W9.setCell ⟨gW, C, none⟩ (.slice a9 D c9)) G9 gF oF gW ty cs cw (fun inp => ((List.range j).foldl (fun (Q : PS) (k : Nat) => exL cw th (Q.put C ((f.a + k) % 2 ^ D).toNat)) (S1 inp)).put C ((f.a + (j : Int)) % 2 ^ D).toNat) vs9 ls9 fb5) := Hid.mk (fun W9 gv9 G9 a9 c9 l9 s hx vx => by
                  have fa := s.frm HY6.out.bs HG6.out
                  have sy := (HY6.out.thn s).mono (show 131072 * (j * (1 + nS th)) + 0 + 64 ≤ 131072 * (j * (1 + nS th)) + 64 by omega)
                  obtain ⟨uv, lu, u1, u2, u3, u4⟩ := fa.word HCC.out
                  rw [← HHD.out] at u4
                  obtain ⟨ua, uc, huv, -, -⟩ := u3.sh u4
                  rw [huv] at u1
                  have fp := fa.put HCC.out hx (by rw [← HHD.out]; exact vx)
                  have sp := SX.put sy fa C (.slice a9 D c9)
                  exact ⟨HSP.out _ _ _ _ _ _ _ _ sy fa, ⟨ua, uc, u1⟩, u2, HSP.out _ _ _ _ _ _ _ _ sp fp, _, _, sp, fp.congr (fun inp => by rw [HUM.out])⟩)
                clear hmul hsuc hs5 r1 r2 hum
                go_wp2_with fail
                go_region_held3 (fun w' => w'.cell? ⟨gF, oF, none⟩ = some (.slice (some ⟨gW, 0, none⟩) cw.length cw.length) ∧ w'.cell? ⟨gZ, 1, none⟩ = some (.int .i64 (C : Nat)) ∧ w'.cell? ⟨gB, 0, none⟩ = some (.pointer (some ⟨gc, 0, none⟩)) ∧ w'.cell? ⟨gZ, 3, none⟩ = some (.int .i64 f.a)) (with_reducible first | exact sd | exact sd7 | exact sd8)
                  (first | (go_at_call 66; refine HC66.out.mono ?_; rintro e w7 ⟨gv7, G7, l7, a7, c7, rfl, b9, s9, x9, wo9, wv9⟩; obtain ⟨sd7, ⟨ua7, uc7, u1⟩, u2, sd8, vs8, ls8, hsx8, hfr8⟩ := HFN.out w7 gv7 G7 a7 c7 l7 (((ST.keep HT6.out.bs (Keep.refl w6).drew).trans ⟨b9, s9, x9⟩).mono (by omega)) wo9 wv9; have HX8' := Hid.mk hsx8; have HF8' := Hid.mk hfr8; clear b9 s9 x9 wo9 wv9 hsx8 hfr8))
                rename_i hHd
                clear hHd sd sd7 sd8 u1 u2
                generalize w7.setCell ⟨gW, C, none⟩ (.slice a7 D c7) = w8 at *
                have aZ := HZC.out _ _ _ _ HX8'.out
                have z6 : w8.cell? ⟨gZ, 6, none⟩ = some (.slice ta tr.length tc) := aZ.cell 6
                have hkp : KP P Z w8 := HX8'.out.kp HTZ.out.bs HPX.out
                have CT := Hid.mk (HIH.out th HMS.out.1 B X w8 gB cv gc gv7 G7 n gF oF gW ty cs (fun inp => ((List.range j).foldl (fun (Q : PS) (k : Nat) => exL cw th (Q.put C ((f.a + k) % 2 ^ D).toNat)) (S1 inp)).put C ((f.a + (j : Int)) % 2 ^ D).toNat) vs8 ls8 fb5 _ tr HX8'.out.bs (HCZ.out.step hkp) (by rw [HCWE.out]; exact HF8'.out) (HX5.out.step hkp) (HX6.out.step hkp) (by rw [HCWE.out]; exact HTT.out) (by have := HS5.out; have := HX8'.out.len; have := HSZ.out; have := HNF.out; have := HSUC.out; have h7 : (j + 1) * (1 + nS th) ≤ itN f.a f.b * (1 + nS th) := Nat.mul_le_mul_right _ hlt9; omega))
                rw [HCWE.out] at CT
                clear aZ hkp
                go_wp2_with fail
                refine CT.out.mono ?_
                rintro e w9 ⟨gv9, G9, vs9, ls9, fb9, rfl, sx9, fr9⟩
                have HX9 := Hid.mk (HX8'.out.trans sx9)
                have HF9 := Hid.mk fr9
                clear sx9 fr9 z6
                go_wp2_with fail
                go_roundg (gk - 1)
                case measure => have := HJ.out; omega
                case rel => exact ⟨j + 1, gv9, G9, vs9, ls9, fb9, by have := HJ.out; omega, by go_num, HX9.out.mono (by rw [HSUC.out]; omega), HF9.out.congr (fun inp => by rw [List.range_succ, List.foldl_append]; rfl)⟩
              · have j3 : ¬ (j : Int) < ((itN f.a f.b : Nat) : Int) := by omega
                have hje : j = itN f.a f.b := by have := HJ.out; omega
                have HJE := Hid.mk hje
                clear hje
                go_wp2_with fail
                go_roundg (ok - 1)
                case measure => have := HK.out; omega
                case rel =>
                  have h1 := HY6.out
                  have h2 := HG6.out
                  rw [HJE.out] at h1
                  exact HEND.out _ _ _ _ _ _ (h1.mono (by have := HNF.out; omega)) (h2.congr (fun inp => by rw [HRX.out, HJE.out]))
        · as_aux_lemma =>
            have HO := Hid.mk (HOCX.out 67 (rTrig_c hcl (by rw [HCWE.out]; exact HWS.out) kd))
            rw [kd] at q0 HO
            clear kd E hcc
            go_wp2_with fail
            refine HO.out.mono ?_
            rintro e w4 ⟨gv4, G4, vs4, ls4, fb4, rfl, sx4, fr4⟩
            have HR4 := Hid.mk (HEND.out _ _ _ _ _ _ sx4 fr4)
            clear sx4 fr4 q0 q1 q2 q3 q4 q5 q6 q7
            go_wp2_with fail
            go_roundg (gk - 1)
            case measure => have := HK.out; omega
            case rel => exact HR4.out
        · as_aux_lemma =>
            have HO := Hid.mk (HOCX.out 68 (ton_c hcl (by rw [HCWE.out]; exact HWS.out) kd))
            rw [kd] at q0 HO
            clear kd E hcc hcd
            go_wp2_with fail
            refine HO.out.mono ?_
            rintro e w4 ⟨gv4, G4, vs4, ls4, fb4, rfl, sx4, fr4⟩
            have HR4 := Hid.mk (HEND.out _ _ _ _ _ _ sx4 fr4)
            clear sx4 fr4 q0 q1 q2 q3 q4 q5 q6 q7
            go_wp2_with fail
            go_roundg (gk - 1)
            case measure => have := HK.out; omega
            case rel => exact HR4.out
        · as_aux_lemma =>
            have HO := Hid.mk (HOCX.out 69 (ctu_c hcl (by rw [HCWE.out]; exact HWS.out) kd))
            rw [kd] at q0 HO
            clear kd E hcc hcd hce
            go_wp2_with fail
            refine HO.out.mono ?_
            rintro e w4 ⟨gv4, G4, vs4, ls4, fb4, rfl, sx4, fr4⟩
            have HR4 := Hid.mk (HEND.out _ _ _ _ _ _ sx4 fr4)
            clear sx4 fr4 q0 q1 q2 q3 q4 q5 q6 q7
            go_wp2_with fail
            go_roundg (gk - 1)
            case measure => have := HK.out; omega
            case rel => exact HR4.out
      · have j1 : ¬ (k : Int) < t.toL.length := by omega
        obtain rfl : k = t.toL.length := by have := HK.out; omega
        go_wp2_with fail
        go_end0
        have h9 := HX1.out
        have h8 := HF1.out
        rw [List.take_length] at h9 h8
        exact ⟨gv1, G1, _, _, _, rfl, h9.mono (by have := HNS.out; omega), h8.congr (fun inp => (HX.out inp).symm)⟩
theorem stmts_b {P : Nat → Prop} {cels : List Cel} (hcl3 : cels.length ≤ 256) (hWS : WsOK (cels.map (·.w))) (t : SL) : MC P cels t := stmts_n hcl3 hWS t.size t rfl
end Go.Proofs.Qxb6500772a
