/- blastlaw: RealDoesWhatModelDoes. -/
import Derived.Test.Qxb6500772aPl
import Derived.Test.Qxb6500772aLb
import Derived.Test.Qxb6500772aHi
import Derived.Test.Qxb6500772aMi
import Derived.Test.Qxb6500772aMj
import Derived.Test.Qxb6500772aMk
import Derived.Test.Qxb6500772aMl
import Derived.Test.Qxb6500772aHb
import Derived.BigQuiet
import Derived.BigRegion
namespace Go.Proofs.Qxb6500772a
open Go Go.RowKit Go.Qm
set_option linter.unusedVariables false
set_option linter.unusedSimpArgs false
attribute [local go_sem ↓] Go.wp_at_zero Go.wp_at_succ
theorem inis_ok {cels : List Cel} (h : ∀ c ∈ cels, c.ini < 2 ^ c.w.toNat) (b : Bool) : StOK (cwOf cels) ⟨inis cels, b⟩ := by
  refine ⟨by simp [inis, cwOf], fun i hi => ?_⟩
  have hi2 : i < cels.length := by rw [cwOf_len] at hi; exact hi
  have := h _ (List.getElem_mem hi2)
  simpa [inis, cwOf, List.getD_eq_getElem?_getD, List.getElem?_map, List.getElem?_eq_getElem hi2] using this
theorem mix_ok {cels : List Cel} {S T : PS} (hS : StOK (cwOf cels) S) (hT : StOK (cwOf cels) T) (k : Nat) : StOK (cwOf cels) (mixK cels S.at T k) := by
  refine ⟨by rw [mixK_len, hT.1], fun i hi => ?_⟩
  show (mixK cels S.at T k).at i < _
  rw [mixK_at _ _ _ _ _ (by rw [hT.1]; exact hi)]
  split
  · exact hS.2 i hi
  · exact hT.2 i hi
set_option maxRecDepth 4000 in
set_option maxHeartbeats 4000000 in
theorem real_c {w : World} {v : Value} {sc : List OpR} (EX : ∀ (P : Nat → Prop) (cels : List Cel) (f : EF) (t : SL), cels.length ≤ 1000000 → (∀ c ∈ cels, 1 ≤ c.w ∧ c.w ≤ 64) → ExC P cels f t) (hs : Script w v sc) : Calls Try.prog 4 #[v] w fun e w' => e = .returned (.bool true) ∧ Keep w w' := by
  have SM := Hid.mk (small_c hs)
  have hs0 := hs
  obtain ⟨va, vc, rfl, -⟩ := hs0
  by_cases hsm : sc.length ≤ 65536
  · have PL := Hid.mk (play_c hs hsm EX)
    have hd : decide (sc.length ≤ 65536) = true := decide_eq_true hsm
    rw [hd] at SM
    have HEX := Hid.mk EX
    clear hs hd hsm EX
    go_enter Try.func4, Try.ntmps4
    go_wp2_with fail
    refine SM.out.mono ?_
    rintro e y ⟨rfl, hy⟩
    have hy2 := hy.symm
    clear hy
    subst hy2
    go_wp2_with fail
    refine PL.out.mono ?_
    rintro e w1 ⟨k1, P, cels, body, f, t, cv, bv, kv, c0, b0, n0, b1, rfl, tk, ⟨⟨ca0, cm0, cc0, rfl⟩, ⟨na0, nm0, nc0, rfl⟩⟩, hst⟩
    obtain ⟨pa, pc, hcv, -, -⟩ := tk.cs.form
    subst hcv
    obtain ⟨brows, hb1, hb2⟩ := tk.bd
    obtain ⟨ba, bc, hbv, bc1, bc2⟩ := hb1.form
    rw [hb2.len] at hbv bc1
    subst hbv
    obtain ⟨rows, hk1, hk2⟩ := tk.kd
    obtain ⟨ka, kc, hkv, -, -⟩ := hk1.form
    generalize hkn : rows.length = kn at hkv
    subst hkv
    obtain ⟨er, her⟩ : ∃ er, ckP cels body f t = er := ⟨_, rfl⟩
    rw [her]
    simp only [tag]
    obtain ⟨w2, hw2⟩ : ∃ w2, w2 = w1.alloc (.cells #[.slice pa cels.length pc, .slice ba body.len bc, .int .i64 f.k, .int .i64 f.w, .int .i64 f.o, .int .u64 ((f.v : Nat) : Int), .int .i64 f.c, .int .i64 f.l, .slice ka kn kc, .int .i64 ((er : Nat) : Int), .slice ca0 cm0 cc0, .bool b0, .slice na0 nm0 nc0, .bool b1] 39) := ⟨_, rfl⟩
    have k2 : Keep w1 w2 := by rw [hw2]; exact (Keep.refl w1).alloc _
    have a2 : Arr w2 w1.heap.size 39 [.slice pa cels.length pc, .slice ba body.len bc, .int .i64 f.k, .int .i64 f.w, .int .i64 f.o, .int .u64 ((f.v : Nat) : Int), .int .i64 f.c, .int .i64 f.l, .slice ka kn kc, .int .i64 ((er : Nat) : Int), .slice ca0 cm0 cc0, .bool b0, .slice na0 nm0 nc0, .bool b1] := by rw [hw2]; exact Arr.new w1 39 _
    obtain ⟨gT, hgT⟩ : ∃ gT, gT = w1.heap.size := ⟨_, rfl⟩
    rw [← hgT] at a2
    have t9 : w2.cell? ⟨gT, 9, none⟩ = some (.int .i64 ((er : Nat) : Int)) := a2.cell 9
    have HK1 := Hid.mk k1
    have HK2 := Hid.mk k2
    have HA2 := Hid.mk a2
    have HTK := Hid.mk tk
    have HST := Hid.mk hst
    have HER := Hid.mk her
    have HB := Hid.mk (And.intro hb1 hb2)
    have HKD := Hid.mk (And.intro hk1 hk2)
    have HBC := Hid.mk (And.intro bc1 bc2)
    have HGT := Hid.mk hgT
    clear k1 k2 a2 tk hst her hb1 hb2 hk1 hk2 bc1 bc2 hkn
    go_upto_region 4 with fail
    rw [← hgT, ← hw2]
    clear hgT hw2
    by_cases he : er = 0
    · subst he
      have OKQ := ckP_ok HER.out
      obtain ⟨Sc, Sn, ⟨ca, cap, hv1, hvs1, hf1, sok1⟩, ⟨cb, capb, hv2, hvs2, hf2, sok2⟩⟩ := HST.out HER.out
      injection hv1 with e1 e2 e3
      subst e1 e2 e3 hf1
      injection hv2 with e1 e2 e3
      subst e1 e2 e3 hf2
      have kk := HK2.out
      have tk := HTK.out
      have bl : Calls Try.prog 8 #[prA (.slice pa cels.length pc) (.slice ba body.len bc) f (.slice ka kn kc)] w2 fun e w' => RBd cels body f t w2 e w' := build_c tk.cl tk.cr tk.bl (tk.cs.step (KP.of kk)) (HB.out.1.step (KP.of kk)) (HB.out.2.step (KP.of kk)) tk.ef (HKD.out.1.step (KP.of kk)) (HKD.out.2.step (KP.of kk)) (fun q a => Nat.lt_of_lt_of_le (tk.pl q a) kk.size)
      simp only [prA] at bl
      have HBL := Hid.mk bl
      have HOK := Hid.mk OKQ
      have HV1 := Hid.mk (And.intro hvs1 sok1)
      have HV2 := Hid.mk (And.intro hvs2 sok2)
      have a2 := HA2.out
      have e1 : ((((0 : Nat) : Nat) : Int) != 0) = false := rfl
      have t0 : w2.cell? ⟨gT, 0, none⟩ = some (.slice pa cels.length pc) := a2.cell 0
      have t1 : w2.cell? ⟨gT, 1, none⟩ = some (.slice ba body.len bc) := a2.cell 1
      have t2 : w2.cell? ⟨gT, 2, none⟩ = some (.int .i64 f.k) := a2.cell 2
      have t3 : w2.cell? ⟨gT, 3, none⟩ = some (.int .i64 f.w) := a2.cell 3
      have t4 : w2.cell? ⟨gT, 4, none⟩ = some (.int .i64 f.o) := a2.cell 4
      have t5 : w2.cell? ⟨gT, 5, none⟩ = some (.int .u64 ((f.v : Nat) : Int)) := a2.cell 5
      have t6 : w2.cell? ⟨gT, 6, none⟩ = some (.int .i64 f.c) := a2.cell 6
      have t7 : w2.cell? ⟨gT, 7, none⟩ = some (.int .i64 f.l) := a2.cell 7
      have t8 : w2.cell? ⟨gT, 8, none⟩ = some (.slice ka kn kc) := a2.cell 8
      clear kk tk bl OKQ hvs1 sok1 hvs2 sok2 a2
      go_wp2_with fail
      refine HBL.out.mono ?_
      rintro e w3 ⟨k3, h3⟩
      rcases h3 with ⟨hne, -⟩ | ⟨-, gS, gc, gv, G, pv, av, afl, gWc, fbc, gWn, fbn, gW3, fb3, b8, b9, b10, b11, rfl, sys⟩
      · exact absurd HER.out hne
      have l1 : Sc.cells.length = cels.length := by have := HV1.out.2.1; simpa using this
      have l2 : Sn.cells.length = cels.length := by have := HV2.out.2.1; simpa using this
      have HL12 := Hid.mk (And.intro l1 l2)
      have HSY := Hid.mk sys
      have HK3 := Hid.mk k3
      have a3 := HA2.out.keep k3
      have HA3 := Hid.mk a3
      have k13 := HK2.out.trans k3
      have HCW : Hid (∀ c ∈ cels, 1 ≤ c.w ∧ c.w ≤ 64) := Hid.mk (fun c hc => ⟨(HOK.out.ce c hc).w1, (HOK.out.ce c hc).w2⟩)
      have HPR : Hid (PRG P w3 cels body f t (.slice pa cels.length pc) (.slice ba body.len bc) (.slice ka kn kc)) := Hid.mk ((PRG.mk HTK.out.cs HTK.out.bd HTK.out.ef HTK.out.kd HTK.out.cl HTK.out.pl HCW.out HOK.out.wb HOK.out.wl HOK.out.wo (HEX.out P cels f body HTK.out.cl HCW.out)).keep k13)
      have CH := Hid.mk (chkM_c HTK.out.cl HTK.out.cr HTK.out.bl (HTK.out.cs.step (KP.of k13)) (HB.out.1.step (KP.of k13)) (HB.out.2.step (KP.of k13)) HTK.out.ef (HKD.out.1.step (KP.of k13)) (HKD.out.2.step (KP.of k13)))
      rw [HER.out] at CH
      simp only [prA] at CH
      clear t0 t1 t2 t3 t4 t5 t6 t7 t8
      have t0 : w3.cell? ⟨gT, 0, none⟩ = some (.slice pa cels.length pc) := a3.cell 0
      have t1 : w3.cell? ⟨gT, 1, none⟩ = some (.slice ba body.len bc) := a3.cell 1
      have t2 : w3.cell? ⟨gT, 2, none⟩ = some (.int .i64 f.k) := a3.cell 2
      have t3 : w3.cell? ⟨gT, 3, none⟩ = some (.int .i64 f.w) := a3.cell 3
      have t4 : w3.cell? ⟨gT, 4, none⟩ = some (.int .i64 f.o) := a3.cell 4
      have t5 : w3.cell? ⟨gT, 5, none⟩ = some (.int .u64 ((f.v : Nat) : Int)) := a3.cell 5
      have t6 : w3.cell? ⟨gT, 6, none⟩ = some (.int .i64 f.c) := a3.cell 6
      have t7 : w3.cell? ⟨gT, 7, none⟩ = some (.int .i64 f.l) := a3.cell 7
      have t8 : w3.cell? ⟨gT, 8, none⟩ = some (.slice ka kn kc) := a3.cell 8
      clear sys k3 a3 k13 t9 e1 l1 l2
      go_wp2_with fail
      refine CH.out.mono ?_
      rintro e w4 ⟨rfl, k4⟩
      have PN := Hid.mk (pinsM_c (f := f) (w := w4) (by have := HOK.out.cl; omega) HCW.out (HPR.out.keep k4).cs HPR.out.sb HPR.out.sk)
      simp only [prA] at PN
      have a4 := HA3.out.keep k4
      have HA4 := Hid.mk a4
      have HK4 := Hid.mk k4
      have HS4 := Hid.mk (HSY.out.keep k4)
      have ez : ((((0 : Nat) : Nat) : Int) != ((0 : Nat) : Int)) = false := rfl
      clear t0 t1 t2 t3 t4 t5 t6 t7 t8 k4
      have t0 : w4.cell? ⟨gT, 0, none⟩ = some (.slice pa cels.length pc) := a4.cell 0
      have t1 : w4.cell? ⟨gT, 1, none⟩ = some (.slice ba body.len bc) := a4.cell 1
      have t2 : w4.cell? ⟨gT, 2, none⟩ = some (.int .i64 f.k) := a4.cell 2
      have t3 : w4.cell? ⟨gT, 3, none⟩ = some (.int .i64 f.w) := a4.cell 3
      have t4 : w4.cell? ⟨gT, 4, none⟩ = some (.int .i64 f.o) := a4.cell 4
      have t5 : w4.cell? ⟨gT, 5, none⟩ = some (.int .u64 ((f.v : Nat) : Int)) := a4.cell 5
      have t6 : w4.cell? ⟨gT, 6, none⟩ = some (.int .i64 f.c) := a4.cell 6
      have t7 : w4.cell? ⟨gT, 7, none⟩ = some (.int .i64 f.l) := a4.cell 7
      have t8 : w4.cell? ⟨gT, 8, none⟩ = some (.slice ka kn kc) := a4.cell 8
      clear a4
      go_wp2_with fail
      refine PN.out.mono ?_
      rintro e w5 ⟨pv5, rfl, ow5, k5⟩
      have HO5 := Hid.mk ow5
      have HK5 := Hid.mk k5
      obtain ⟨qa, qc, hq⟩ : ∃ qa qc, pv5 = .slice qa (pinAll (cwOf cels) (cnOf cels)).length qc := by
        rcases ow5.form with ⟨rfl, e⟩ | ⟨g, cap, cur, rfl, -⟩
        · exact ⟨none, 0, by rw [e]; rfl⟩
        · exact ⟨_, _, rfl⟩
      subst hq
      have s5 := HS4.out.keep k5
      have HS5 := Hid.mk s5
      obtain ⟨ra, rc, hr⟩ : ∃ ra rc, pv = .slice ra (pinAll (cwOf cels) (cnOf cels)).length rc := by
        rcases s5.pn.form with ⟨rfl, e⟩ | ⟨g, cap, cur, rfl, -⟩
        · exact ⟨none, 0, by rw [e]; rfl⟩
        · exact ⟨_, _, rfl⟩
      subst hr
      have q12 : w5.cell? ⟨gS, 12, none⟩ = some (.slice ra (pinAll (cwOf cels) (cnOf cels)).length rc) := s5.ar.cell 12
      have q0 : w5.cell? ⟨gS, 0, none⟩ = some (.pointer (some ⟨gc, 0, none⟩)) := s5.ar.cell 0
      have NI := Hid.mk (numInputs_c s5.cc)
      have hpl : ((pinAll (cwOf cels) (cnOf cels)).length : Int) ≤ 100000 := by have := (pins_ok HOK.out).2; omega
      have HPD : Hid (∀ k (hk : k < (pinAll (cwOf cels) (cnOf cels)).length), ∃ g1 g2 c0 c1 c2, qa = some ⟨g1, 0, none⟩ ∧ ra = some ⟨g2, 0, none⟩ ∧ ∀ Z, Keep w5 Z → (Z.cell? ⟨g1, k * 3, none⟩ = some (.int .i64 c0) ∧ Z.cell? ⟨g1, k * 3 + 1, none⟩ = some (.int .i64 c1) ∧ Z.cell? ⟨g1, k * 3 + 2, none⟩ = some (.int .i64 c2)) ∧ (Z.cell? ⟨g2, k * 3, none⟩ = some (.int .i64 c0) ∧ Z.cell? ⟨g2, k * 3 + 1, none⟩ = some (.int .i64 c1) ∧ Z.cell? ⟨g2, k * 3 + 2, none⟩ = some (.int .i64 c2))) := Hid.mk (by
        intro k hk
        rcases ow5.form with ⟨-, e⟩ | ⟨g, cap, cur, hv, hB, hA, h5, h6, h7, h8⟩
        · rw [e] at hk; simp at hk
        rcases s5.pn.form with ⟨-, e⟩ | ⟨g', cap', cur', hv', hB', hA', h5', h6', h7', h8'⟩
        · rw [e] at hk; simp at hk
        injection hv with hv
        injection hv' with hv'
        have x0 := flat_take_get pinVC_len h8 k 0 hk (by omega)
        have y0 := flat_take_get pinVC_len h8' k 0 hk (by omega)
        rw [Nat.add_zero] at x0 y0
        have x1 := flat_take_get pinVC_len h8 k 1 hk (by omega)
        have y1 := flat_take_get pinVC_len h8' k 1 hk (by omega)
        have x2 := flat_take_get pinVC_len h8 k 2 hk (by omega)
        have y2 := flat_take_get pinVC_len h8' k 2 hk (by omega)
        exact ⟨g, g', _, _, _, hv, hv', fun Z kz => ⟨⟨((hA.keep kz).cell _).trans x0, ((hA.keep kz).cell _).trans x1, ((hA.keep kz).cell _).trans x2⟩, ⟨((hA'.keep kz).cell _).trans y0, ((hA'.keep kz).cell _).trans y1, ((hA'.keep kz).cell _).trans y2⟩⟩⟩)
      clear ow5 k5 s5 t0 t1 t2 t3 t4 t5 t6 t7 t8 ez
      generalize hpln : (pinAll (cwOf cels) (cnOf cels)).length = pln at *
      have HPLN := Hid.mk hpln
      clear hpln
      have ez : ((pln : Int) != (pln : Int)) = false := by simp
      go_wp2_with fail
      refine NI.out.mono ?_
      rintro e y ⟨rfl, hy⟩
      have hy2 := hy.symm
      clear hy
      subst hy2
      go_wp2_with fail
      clear q0 q12
      go_loopg [59] pln (fun gk v59 wr => ∃ (k : Nat), k + gk = pln ∧ v59 = .int .i64 k ∧ Keep w5 wr)
      case atStart => exact ⟨0, by omega, rfl, Keep.refl _⟩
      case round =>
        obtain ⟨k, hk, rfl, kp⟩ := hrel
        have HKK := Hid.mk hk
        have HKP := Hid.mk kp
        clear hk
        by_cases hlt : k < pln
        · have j1 : (k : Int) < pln := by omega
          have j2 : (0 : Int) ≤ k := by omega
          obtain ⟨g1, g2, c0, c1, c2, hqa, hra, hcs⟩ := HPD.out k hlt
          obtain ⟨⟨x0, x1, x2⟩, ⟨y0, y1, y2⟩⟩ := hcs wr kp
          have q12 : wr.cell? ⟨gS, 12, none⟩ = some (.slice ra pln rc) := (HS5.out.keep kp).ar.cell 12
          subst hqa hra
          clear hcs kp
          go_wp2_with fail
          go_quiet (fail)
          go_wp2_with fail
          go_roundg (gk - 1)
          case measure => have := HKK.out; omega
          case rel => exact ⟨k + 1, by have := HKK.out; omega, by go_num, HKP.out.drewN _⟩
        · have j1 : ¬ (k : Int) < pln := by omega
          obtain rfl : k = pln := by have := HKK.out; omega
          obtain ⟨ok, hok⟩ : ∃ ok, ok = gk := ⟨_, rfl⟩
          subst hok
          obtain ⟨wL, hwL⟩ : ∃ wL, wL = wr := ⟨_, rfl⟩
          subst hwL
          have k3L := (HK4.out.trans HK5.out).trans kp
          have HK3L := Hid.mk k3L
          have aL := HA3.out.keep k3L
          have HAL := Hid.mk aL
          have HSL := Hid.mk (HSY.out.keep k3L)
          have HPRL := Hid.mk (HPR.out.keep k3L)
          have IN := Hid.mk (iniM_c (f := f) (w := wL) HTK.out.cl HPRL.out.cs HPRL.out.sb HPRL.out.sk)
          simp only [prA] at IN
          have t0 : wL.cell? ⟨gT, 0, none⟩ = some (.slice pa cels.length pc) := aL.cell 0
          have t1 : wL.cell? ⟨gT, 1, none⟩ = some (.slice ba body.len bc) := aL.cell 1
          have t2 : wL.cell? ⟨gT, 2, none⟩ = some (.int .i64 f.k) := aL.cell 2
          have t3 : wL.cell? ⟨gT, 3, none⟩ = some (.int .i64 f.w) := aL.cell 3
          have t4 : wL.cell? ⟨gT, 4, none⟩ = some (.int .i64 f.o) := aL.cell 4
          have t5 : wL.cell? ⟨gT, 5, none⟩ = some (.int .u64 ((f.v : Nat) : Int)) := aL.cell 5
          have t6 : wL.cell? ⟨gT, 6, none⟩ = some (.int .i64 f.c) := aL.cell 6
          have t7 : wL.cell? ⟨gT, 7, none⟩ = some (.int .i64 f.l) := aL.cell 7
          have t8 : wL.cell? ⟨gT, 8, none⟩ = some (.slice ka kn kc) := aL.cell 8
          clear aL k3L kp hlt
          go_wp2_with fail
          refine IN.out.mono ?_
          rintro e w6 ⟨⟨v6, rfl, ow⟩, k6, hgr⟩
          obtain ⟨gC, cx, capx, spx, rfl, cl6, gc1, gc2, gor⟩ := own_cl (d := wL.heap.size) ow (Nat.le_refl _) hgr
          obtain ⟨w7, hw7⟩ : ∃ w7, w7 = w6.alloc (.cells #[.slice cx (inis cels).length capx, .bool false] 37) := ⟨_, rfl⟩
          have k7 : Keep w6 w7 := by rw [hw7]; exact (Keep.refl w6).alloc _
          have a7 : Arr w7 w6.heap.size 37 [.slice cx (inis cels).length capx, .bool false] := by rw [hw7]; exact Arr.new w6 37 _
          obtain ⟨g7, hg7⟩ : ∃ g7, g7 = w6.heap.size := ⟨_, rfl⟩
          rw [← hg7] at a7
          have st7 : StM w7 g7 gC cx capx spx ⟨inis cels, false⟩ := ⟨a7, fun x => ⟨(cl6.ce x).1, (cl6.ce x).2.keep k7⟩, by omega, cl6.le, cl6.mx⟩
          have HST7 := Hid.mk st7
          have HKL7 := Hid.mk (k6.trans k7)
          have HG7 : Hid (wL.heap.size ≤ gC ∧ gC < w7.heap.size ∧ wL.heap.size ≤ g7 ∧ g7 < w7.heap.size) := Hid.mk ⟨gc1, by have := k7.size; omega, by have := k6.size; omega, a7.lt⟩
          have t11 : w7.cell? ⟨gT, 11, none⟩ = some (.bool Sc.fault) := (HAL.out.keep (k6.trans k7)).cell 11
          have u1 : w7.cell? ⟨g7, 1, none⟩ = some (.bool false) := a7.cell 1
          have u2 := a7.frozen 1
          have hci : (cels.length : Int) ≤ 1000000 := by have := HTK.out.cl; omega
          clear ow k6 hgr cl6 gc1 gc2 gor k7 a7 st7 t0 t1 t2 t3 t4 t5 t6 t7 t8
          go_upto_region 19 with fail
          rw [← hg7, ← hw7]
          clear hg7 hw7
          go_upto_region 20 with fail
          obtain ⟨w8, hw8⟩ : ∃ w8, w8 = w7.setCell ⟨g7, 1, none⟩ (.bool Sc.fault) := ⟨_, rfl⟩
          rw [← hw8]
          have st8 : StM w8 g7 gC cx capx spx ⟨inis cels, Sc.fault⟩ := by rw [hw8]; exact HST7.out.flt Sc.fault
          have kL8 : Keep wL w8 := by rw [hw8]; exact HKL7.out.setCell (p := ⟨g7, 1, none⟩) HG7.out.2.2.1 _
          have HST8 := Hid.mk st8
          have HKL8 := Hid.mk kL8
          have HG8 : Hid (wL.heap.size ≤ gC ∧ wL.heap.size ≤ g7) := Hid.mk ⟨HG7.out.1, HG7.out.2.2.1⟩
          have t0 : w8.cell? ⟨gT, 0, none⟩ = some (.slice pa cels.length pc) := (HAL.out.keep kL8).cell 0
          clear hw8 st8 kL8 t11 u1 u2
          go_wp2_with fail
          clear t0
          go_loopg [86] cels.length (fun gk v86 wr => ∃ (k : Nat), k + gk = cels.length ∧ v86 = .int .i64 k ∧ Fr (pS g7 gC) w8 wr ∧ StM wr g7 gC cx capx spx (mixK cels Sc.at ⟨inis cels, Sc.fault⟩ k))
          case atStart => exact ⟨0, by omega, rfl, Fr.refl _ _, HST8.out⟩
          case round =>
            obtain ⟨k, hk, rfl, fr, st⟩ := hrel
            have kR : Keep wL wr := Fr.keep' ((Fr.keep HKL8.out).trans (fr.mono (fun q _ e => by have := HG8.out; rcases e with e | e <;> omega)))
            have HKR := Hid.mk kR
            have HKK2 := Hid.mk hk
            have HFR := Hid.mk fr
            have HSTR := Hid.mk st
            have HML : Hid ((mixK cels Sc.at ⟨inis cels, Sc.fault⟩ k).cells.length = cels.length) := Hid.mk (by rw [mixK_len]; simp [inis])
            have kall := (HK2.out.trans HK3.out).trans (HK3L.out.trans kR)
            have HKALL := Hid.mk kall
            clear hk fr
            by_cases hlt2 : k < cels.length
            · have j1 : (k : Int) < cels.length := by omega
              have j2 : (0 : Int) ≤ k := by omega
              obtain ⟨cb, co, hca, hcel⟩ := (HPRL.out.keep kR).cs.cell hlt2
              subst hca
              have c0 := hcel 0 (by decide)
              have c1 := hcel 1 (by decide)
              have c2 := hcel 2 (by decide)
              have c3 := hcel 3 (by decide)
              have c4 := hcel 4 (by decide)
              simp only [celC, List.getElem?_cons_zero, List.getElem?_cons_succ, Nat.add_zero] at c0 c1 c2 c3 c4
              have HNX : Hid (mixK cels Sc.at ⟨inis cels, Sc.fault⟩ (k + 1) = if cels[k].inp = true then (mixK cels Sc.at ⟨inis cels, Sc.fault⟩ k).put k (Sc.at k) else mixK cels Sc.at ⟨inis cels, Sc.fault⟩ k) := Hid.mk (by rw [mixK, inpA_get hlt2])
              generalize cels[k] = x at *
              obtain ⟨Z, hZ⟩ : ∃ Z, Z = wr.alloc (.cells #[.int .i64 x.w, .bool x.inp, .int .u64 (x.ini : Nat), .int .i64 x.lo, .int .i64 x.hi] 70) := ⟨_, rfl⟩
              have kZ : Keep wr Z := by rw [hZ]; exact (Keep.refl wr).alloc _
              have aZ : Arr Z wr.heap.size 70 [.int .i64 x.w, .bool x.inp, .int .u64 (x.ini : Nat), .int .i64 x.lo, .int .i64 x.hi] := by rw [hZ]; exact Arr.new wr 70 _
              have z1 : Z.cell? ⟨wr.heap.size, 1, none⟩ = some (.bool x.inp) := aZ.cell 1
              have stZ := st.keep kZ
              have HSZ := Hid.mk stZ
              have HFZ : Hid (Fr (pS g7 gC) w8 Z) := Hid.mk (HFR.out.trans (Fr.keep kZ))
              obtain ⟨s0, -, -⟩ := stZ.fs
              obtain ⟨s1, s2, s3⟩ := stZ.cell (i := k) (by rw [HML.out]; exact hlt2)
              rw [HML.out, s1] at s0
              have t10 : Z.cell? ⟨gT, 10, none⟩ = some (.slice ca0 Sc.cells.length cc0) := ((HAL.out.keep kR).keep kZ).cell 10
              obtain ⟨yb, yo, hya, y1⟩ := vs_at (Sl.keep HV1.out.1 (kall.trans kZ)) (i := k) (by rw [HL12.out.1]; exact hlt2)
              rw [HL12.out.1, hya] at t10
              have hgl : gC < Z.heap.size := ((stZ.ce (by rw [HML.out]; omega)).2).lt
              clear s1 hcel st stZ kR aZ kZ kall hya
              go_upto_region 23 with fail
              rw [← hZ]
              generalize wr.heap.size = gZ at *
              clear hZ c0 c1 c2 c3 c4
              rcases Bool.eq_false_or_eq_true x.inp with hin | hin
              · rw [hin] at z1
                have HNX2 : Hid (mixK cels Sc.at ⟨inis cels, Sc.fault⟩ (k + 1) = (mixK cels Sc.at ⟨inis cels, Sc.fault⟩ k).put k (Sc.at k)) := Hid.mk (by rw [HNX.out, hin]; rfl)
                clear hin HNX
                generalize (mixK cels Sc.at ⟨inis cels, Sc.fault⟩ k).at k = y at *
                generalize hsk : Sc.at k = sk at *
                have HSK := Hid.mk hsk
                clear hsk
                go_wp2_with fail
                go_region
                go_wp2_with fail
                go_roundg (gk - 1)
                case measure => have := HKK2.out; omega
                case rel => exact ⟨k + 1, by have := HKK2.out; omega, by go_num, (HFZ.out.trans (frC _ _ _ _ _)).trans (Fr.keep ((Keep.refl _).drew)), by rw [HNX2.out]; exact (HSZ.out.put (by rw [HML.out]; exact hlt2) sk).keep ((Keep.refl _).drew)⟩
              · rw [hin] at z1
                have HNX2 : Hid (mixK cels Sc.at ⟨inis cels, Sc.fault⟩ (k + 1) = mixK cels Sc.at ⟨inis cels, Sc.fault⟩ k) := Hid.mk (by rw [HNX.out, hin]; rfl)
                clear hin HNX s0 s2 s3 t10 y1
                go_wp2_with fail
                go_roundg (gk - 1)
                case measure => have := HKK2.out; omega
                case rel => exact ⟨k + 1, by have := HKK2.out; omega, by go_num, HFZ.out, by rw [HNX2.out]; exact HSZ.out⟩
            · have j1 : ¬ (k : Int) < cels.length := by omega
              obtain rfl : k = cels.length := by have := HKK2.out; omega
              have FOK : StOK (cwOf cels) (mixK cels Sc.at ⟨inis cels, Sc.fault⟩ cels.length) := mix_ok HV1.out.2 (inis_ok (fun c hc => (HOK.out.ce c hc).ini) _) _
              generalize mixK cels Sc.at ⟨inis cels, Sc.fault⟩ cels.length = F at *
              clear st kR kall
              go_upto_region 26 with fail
              have kd := (Keep.refl wr).drew
              have kRd := HKR.out.trans kd
              have aT := HAL.out.keep kRd
              have stB := HSTR.out.keep kd
              have kAd := HKALL.out.trans kd
              have hWS : WsOK (cels.map (·.w)) := HOK.out.ws
              have okX := exL_ok hWS HOK.out.wb HV1.out.2
              have okY := exL_ok hWS HOK.out.wb FOK
              refine rf_c gT gS g7 (.slice pa cels.length pc) (.slice ba body.len bc) (.int .i64 f.k) (.int .i64 f.w) (.int .i64 f.o) (.int .u64 ((f.v : Nat) : Int)) (.int .i64 f.c) (.int .i64 f.l) (.slice ka kn kc) (.slice ca0 Sc.cells.length cc0) (.bool Sc.fault) (.slice na0 Sn.cells.length nc0) (.bool Sn.fault) (.slice cx F.cells.length capx) (.bool F.fault) rfl rfl rfl rfl stB.fs.1 stB.fs.2.1 (aT.cell 0) (aT.cell 1) (aT.cell 2) (aT.cell 3) (aT.cell 4) (aT.cell 5) (aT.cell 6) (aT.cell 7) (aT.cell 8) (aT.cell 10) (aT.cell 11) (aT.cell 12) (aT.cell 13) (fun k u Z => match k with
                | 1 => ∃ a c, u = .agg #[.slice a (exL (cels.map (·.w)) body Sc).cells.length c, .bool (exL (cels.map (·.w)) body Sc).fault] ∧ Vs Z (.slice a (exL (cels.map (·.w)) body Sc).cells.length c) (exL (cels.map (·.w)) body Sc).cells
                | 4 => ∃ a c, u = .agg #[.slice a (exL (cels.map (·.w)) body F).cells.length c, .bool (exL (cels.map (·.w)) body F).fault] ∧ Vs Z (.slice a (exL (cels.map (·.w)) body F).cells.length c) (exL (cels.map (·.w)) body F).cells
                | _ => u = .bool true) ?_ ?_ ?_ ?_ ?_ ?_ ?_ ?_ ?_ ?_ ?_ ?_
              · intro k u Z Z' kz hu
                match k, hu with
                | 0, hu => exact hu
                | 1, ⟨a, c, e, hv⟩ => exact ⟨a, c, e, Sl.keep hv kz⟩
                | 2, hu => exact hu
                | 3, hu => exact hu
                | 4, ⟨a, c, e, hv⟩ => exact ⟨a, c, e, Sl.keep hv kz⟩
                | k + 5, hu => exact hu
              · intro Z kz
                have h9 := agrees_c ((HPRL.out.keep kRd).keep kz) ((HSL.out.keep kRd).keep kz) HOK.out (Sl.keep HV1.out.1 (kAd.trans kz)) HV1.out.2 (Sl.keep HV2.out.1 (kAd.trans kz)) HV2.out.2
                simp only [prA] at h9
                refine h9.mono ?_
                rintro e w' ⟨rfl, k⟩
                exact ⟨_, rfl, rfl, k⟩
              · intro u Z hu
                exact hu
              · intro Z kz
                obtain ⟨brows, hb1, hb2⟩ := ((HPRL.out.keep kRd).keep kz).bd
                have h9 := scan_c (f := f) HPRL.out.ex HTK.out.cl ((HPRL.out.keep kRd).keep kz).cs hb1 hb2 HPRL.out.sk HOK.out.wb (Sl.keep HV1.out.1 (kAd.trans kz)) HV1.out.2 ((HPRL.out.keep kRd).keep kz).pl
                simp only [prA] at h9
                refine h9.mono ?_
                rintro e y ⟨hn, ky⟩
                obtain ⟨a, c, rfl, hv, -⟩ := hn.rst ky
                exact ⟨_, rfl, ⟨a, c, rfl, hv⟩, ky⟩
              · rintro Z u kz ⟨a, c, rfl, hv⟩
                have h9 := agrees_c ((HPRL.out.keep kRd).keep kz) ((HSL.out.keep kRd).keep kz) HOK.out (Sl.keep HV1.out.1 (kAd.trans kz)) HV1.out.2 hv okX
                simp only [prA] at h9
                refine h9.mono ?_
                rintro e w' ⟨rfl, k⟩
                exact ⟨_, rfl, rfl, k⟩
              · intro u Z hu
                exact hu
              · intro Z kz
                have h9 := agrees_c ((HPRL.out.keep kRd).keep kz) ((HSL.out.keep kRd).keep kz) HOK.out (Sl.keep stB.vs kz) FOK (Sl.keep HV2.out.1 (kAd.trans kz)) HV2.out.2
                simp only [prA] at h9
                refine h9.mono ?_
                rintro e w' ⟨rfl, k⟩
                exact ⟨_, rfl, rfl, k⟩
              · intro u Z hu
                exact hu
              · intro Z kz
                obtain ⟨brows, hb1, hb2⟩ := ((HPRL.out.keep kRd).keep kz).bd
                have h9 := scan_c (f := f) HPRL.out.ex HTK.out.cl ((HPRL.out.keep kRd).keep kz).cs hb1 hb2 HPRL.out.sk HOK.out.wb (Sl.keep stB.vs kz) FOK ((HPRL.out.keep kRd).keep kz).pl
                simp only [prA] at h9
                refine h9.mono ?_
                rintro e y ⟨hn, ky⟩
                obtain ⟨a, c, rfl, hv, -⟩ := hn.rst ky
                exact ⟨_, rfl, ⟨a, c, rfl, hv⟩, ky⟩
              · rintro Z u kz ⟨a, c, rfl, hv⟩
                have h9 := agrees_c ((HPRL.out.keep kRd).keep kz) ((HSL.out.keep kRd).keep kz) HOK.out (Sl.keep stB.vs kz) FOK hv okY
                simp only [prA] at h9
                refine h9.mono ?_
                rintro e w' ⟨rfl, k⟩
                exact ⟨_, rfl, rfl, k⟩
              · intro u Z hu
                exact hu
              · intro vs26 w' hv hex kz
                have HK9 := Hid.mk ((HK1.out.trans kAd).trans kz)
                simp only [Lmx, rfT, List.filterMap_cons, List.filterMap_nil, ment, Option.map_some, Option.map_none, mval, lay, List.foldl_cons, List.foldl_nil]
                simp only [put_litx, List.set_cons_succ, List.set_cons_zero]
                clear aT stB kd kRd kAd hWS okX okY hv hex kz FOK
                go_wp2_with fail
                go_ret
                exact ⟨rfl, HK9.out⟩
    · have e1 : (((er : Nat) : Int) != 0) = true := by simp; omega
      have kk := HK2.out
      have tk := HTK.out
      have bl : Calls Try.prog 8 #[prA (.slice pa cels.length pc) (.slice ba body.len bc) f (.slice ka kn kc)] w2 fun e w' => RBd cels body f t w2 e w' := build_c tk.cl tk.cr tk.bl (tk.cs.step (KP.of kk)) (HB.out.1.step (KP.of kk)) (HB.out.2.step (KP.of kk)) tk.ef (HKD.out.1.step (KP.of kk)) (HKD.out.2.step (KP.of kk)) (fun q a => Nat.lt_of_lt_of_le (tk.pl q a) kk.size)
      simp only [prA] at bl
      have HBL := Hid.mk bl
      have a2 := HA2.out
      have t0 : w2.cell? ⟨gT, 0, none⟩ = some (.slice pa cels.length pc) := a2.cell 0
      have t1 : w2.cell? ⟨gT, 1, none⟩ = some (.slice ba body.len bc) := a2.cell 1
      have t2 : w2.cell? ⟨gT, 2, none⟩ = some (.int .i64 f.k) := a2.cell 2
      have t3 : w2.cell? ⟨gT, 3, none⟩ = some (.int .i64 f.w) := a2.cell 3
      have t4 : w2.cell? ⟨gT, 4, none⟩ = some (.int .i64 f.o) := a2.cell 4
      have t5 : w2.cell? ⟨gT, 5, none⟩ = some (.int .u64 ((f.v : Nat) : Int)) := a2.cell 5
      have t6 : w2.cell? ⟨gT, 6, none⟩ = some (.int .i64 f.c) := a2.cell 6
      have t7 : w2.cell? ⟨gT, 7, none⟩ = some (.int .i64 f.l) := a2.cell 7
      have t8 : w2.cell? ⟨gT, 8, none⟩ = some (.slice ka kn kc) := a2.cell 8
      clear kk tk bl a2
      go_wp2_with fail
      refine HBL.out.mono ?_
      rintro e w3 ⟨k3, h3⟩
      rcases h3 with ⟨-, rfl⟩ | ⟨h0, -⟩
      · rw [HER.out]
        have HK3 := Hid.mk k3
        have a3 := HA2.out.keep k3
        have k13 := HK2.out.trans k3
        have CH := Hid.mk (chkM_c HTK.out.cl HTK.out.cr HTK.out.bl (HTK.out.cs.step (KP.of k13)) (HB.out.1.step (KP.of k13)) (HB.out.2.step (KP.of k13)) HTK.out.ef (HKD.out.1.step (KP.of k13)) (HKD.out.2.step (KP.of k13)))
        rw [HER.out] at CH
        simp only [prA] at CH
        have ez : (((er : Nat) : Int) != ((er : Nat) : Int)) = false := by simp
        clear t0 t1 t2 t3 t4 t5 t6 t7 t8
        have t0 : w3.cell? ⟨gT, 0, none⟩ = some (.slice pa cels.length pc) := a3.cell 0
        have t1 : w3.cell? ⟨gT, 1, none⟩ = some (.slice ba body.len bc) := a3.cell 1
        have t2 : w3.cell? ⟨gT, 2, none⟩ = some (.int .i64 f.k) := a3.cell 2
        have t3 : w3.cell? ⟨gT, 3, none⟩ = some (.int .i64 f.w) := a3.cell 3
        have t4 : w3.cell? ⟨gT, 4, none⟩ = some (.int .i64 f.o) := a3.cell 4
        have t5 : w3.cell? ⟨gT, 5, none⟩ = some (.int .u64 ((f.v : Nat) : Int)) := a3.cell 5
        have t6 : w3.cell? ⟨gT, 6, none⟩ = some (.int .i64 f.c) := a3.cell 6
        have t7 : w3.cell? ⟨gT, 7, none⟩ = some (.int .i64 f.l) := a3.cell 7
        have t8 : w3.cell? ⟨gT, 8, none⟩ = some (.slice ka kn kc) := a3.cell 8
        clear k3 a3 k13
        go_wp2_with fail
        refine CH.out.mono ?_
        rintro e w4 ⟨rfl, k4⟩
        go_wp2_with fail
        go_ret
        exact ⟨rfl, ((HK1.out.trans HK2.out).trans HK3.out).trans k4⟩
      · exact absurd (HER.out.symm.trans h0) he
  · have hd : decide (sc.length ≤ 65536) = false := decide_eq_false hsm
    rw [hd] at SM
    clear hs hd hsm EX
    go_enter Try.func4, Try.ntmps4
    go_wp2_with fail
    refine SM.out.mono ?_
    rintro e y ⟨rfl, hy⟩
    have hy2 := hy.symm
    clear hy
    subst hy2
    go_wp2_with fail
    go_ret
    exact ⟨rfl, Keep.refl _⟩
end Go.Proofs.Qxb6500772a
